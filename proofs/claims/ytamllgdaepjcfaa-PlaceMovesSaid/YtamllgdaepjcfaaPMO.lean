/- The interpreter computes just these functions: printed by a small program. -/
import Derived.Test.YtamllgdaepjcfaaPMD
namespace Go.Proofs.Ytamllgdaepjcfaa
open Go Go.X
set_option linter.unusedVariables false
set_option linter.unusedSimpArgs false
set_option maxRecDepth 100000
set_option maxHeartbeats 4000000 in
theorem ok19 {Ω : Om} {E : Enc} (hΩ : real (call S) = Ω) (hE : theEnc = E) {fu : Nat} {a0 : Sl Int} {r : Bool} (h : P19 fu a0 = some r) {args : List PV} (ha : [PV.d (.sl (E.L_i_i64 a0.l) (E.X_i_i64 a0.x))] = args) (st : St) :
    Sat (Ω.cf 19 args st) (fun q => q = (PV.d (.bool r), st)) := by
  subst ha
  rcases a0 with ⟨a0_l, a0_x⟩
  rw [cf_body hΩ (f := 19) (fn := Try.f19) (x := c19) rfl rfl c19_ok rfl]
  unfold P19 at h
  try dsimp only at h
  conv => arg 1; cbv
  obtain ⟨q, hl10, hz⟩ := Option.bind_eq_some_iff.1 h
  clear h
  have h := hz
  clear hz
  refine sat_loop hΩ (fun (a : Bool × Int × Int) => (match a with | (i1, i2, i3) => ([(0, PV.d (.sl (E.L_i_i64 a0_l) (E.X_i_i64 a0_x))), (2, PV.d (.bool i1)), (3, PV.d (.int .i64 i2)), (4, PV.d (.int .i64 i3))], ([] : List X.Obj) :: st))) (fun (q : (Bool × Int × Int) ⊕ (Bool × Int × Int)) => (match q with | .inl (o11, o12, o13) => (.exit 0, [(0, PV.d (.sl (E.L_i_i64 a0_l) (E.X_i_i64 a0_x))), (2, PV.d (.bool o11)), (3, PV.d (.int .i64 o12)), (4, PV.d (.int .i64 o13))], ([] : List X.Obj) :: st) | .inr (o14, o15, o16) => (.ret, [(0, PV.d (.sl (E.L_i_i64 a0_l) (E.X_i_i64 a0_x))), (2, PV.d (.bool o14)), (3, PV.d (.int .i64 o15)), (4, PV.d (.int .i64 o16))], ([] : List X.Obj) :: st))) (false, 0, 0) hl10 (by first | rfl | (subst_vars; rfl) | (subst_vars; simp only [ln_set])) ?_ ?_
  · clear h hl10
    rintro ⟨i1, i2, i3⟩ q h
    unfold P19_s0 at h
    dsimp only at h
    conv => arg 1; cbv
    refine sat_len hΩ (ro_i_i64 hE) a0_l (by first | rfl | (subst_vars; rfl)) fun n4 hn5 => ?_
    conv => arg 1; cbv
    refine sat_in hΩ ?_
    conv => arg 1; cbv
    replace h := bif_cases h
    rcases h with ⟨hb6, h⟩ | ⟨hb6, h⟩
    · refine sat_brt (by first | exact hb6 | (subst_vars; first | exact hb6 | rfl)) ?_
      conv => arg 1; cbv
      refine sat_true (fits_l hΩ (ro_i_i64 hE) a0_l (by first | rfl | (subst_vars; rfl))) ?_
      conv => arg 1; cbv
      obtain ⟨x7, hx8, hz⟩ := Option.bind_eq_some_iff.1 h
      clear h
      have h := hz
      clear hz
      refine sat_bind (nth_ok hΩ (ro_i_i64 hE) hx8 (by first | rfl | (subst_vars; rfl)) (by first | rfl | (subst_vars; rfl))) ?_
      conv => arg 1; cbv
      refine sat_in hΩ ?_
      conv => arg 1; cbv
      replace h := bif_cases h
      rcases h with ⟨hb9, h⟩ | ⟨hb9, h⟩
      · refine sat_brt (by first | exact hb9 | (subst_vars; first | exact hb9 | rfl)) ?_
        conv => arg 1; cbv
        obtain rfl := Option.some.inj h
        subst_vars
        first | exact sat_pure (.inr ⟨rfl, rfl⟩) | (refine sat_pure (.inr ⟨rfl, ?_⟩); dsimp only; simp only [ln_set]; rfl)
      · refine sat_brf (by first | exact hb9 | (subst_vars; first | exact hb9 | rfl)) ?_
        conv => arg 1; cbv
        obtain rfl := Option.some.inj h
        subst_vars
        first | exact sat_pure ⟨rfl, rfl, rfl⟩ | (refine sat_pure ⟨rfl, ?_, ?_⟩ <;> first | rfl | (dsimp only; simp only [ln_set]; rfl))
    · refine sat_brf (by first | exact hb6 | (subst_vars; first | exact hb6 | rfl)) ?_
      conv => arg 1; cbv
      obtain rfl := Option.some.inj h
      subst_vars
      first | exact sat_pure (.inl ⟨⟨_, rfl⟩, rfl⟩) | (refine sat_pure (.inl ⟨⟨_, rfl⟩, ?_⟩); dsimp only; simp only [ln_set]; rfl)
  · clear hl10
    rcases q with ⟨o11, o12, o13⟩ | ⟨o14, o15, o16⟩
    · dsimp only at h
      conv => arg 1; cbv
      obtain rfl := Option.some.inj h
      subst_vars
      exact sat_pure rfl
    · dsimp only at h
      conv => arg 1; cbv
      obtain rfl := Option.some.inj h
      subst_vars
      exact sat_pure rfl
set_option maxHeartbeats 4000000 in
theorem ok20 {Ω : Om} {E : Enc} (hΩ : real (call S) = Ω) (hE : theEnc = E) {fu : Nat} {a0 : Sl Int} {r : Sl Int} (h : P20 fu a0 = some r) {args : List PV} (ha : [PV.d (.sl (E.L_i_i64 a0.l) (E.X_i_i64 a0.x))] = args) (st : St) :
    Sat (Ω.cf 20 args st) (fun q => q = (PV.d (.sl (E.L_i_i64 r.l) (E.X_i_i64 r.x)), st)) := by
  subst ha
  rcases a0 with ⟨a0_l, a0_x⟩
  rw [cf_body hΩ (f := 20) (fn := Try.f20) (x := c20) rfl rfl c20_ok rfl]
  unfold P20 at h
  try dsimp only at h
  conv => arg 1; cbv
  refine sat_len hΩ (ro_i_i64 hE) a0_l (by first | rfl | (subst_vars; rfl)) fun n1 hn2 => ?_
  conv => arg 1; cbv
  replace h := bif_some h
  obtain ⟨hb7, h⟩ := h
  refine sat_true (by first | exact hb7 | (subst_vars; first | exact hb7 | rfl)) ?_
  conv => arg 1; cbv
  replace h := bif_some h
  obtain ⟨hb8, h⟩ := h
  refine sat_true (by first | exact hb8 | (subst_vars; first | exact hb8 | rfl)) ?_
  conv => arg 1; cbv
  replace h := bif_some h
  obtain ⟨hb9, h⟩ := h
  refine sat_true (by first | exact hb9 | (subst_vars; first | exact hb9 | rfl)) ?_
  conv => arg 1; cbv
  refine sat_fill hΩ (ro_i_i64 hE) 0 0 (by first | rfl | (subst_vars; rfl)) (by first | rfl | (subst_vars; rfl)) fun l3 hl4 n5 hn6 => ?_
  conv => arg 1; cbv
  obtain ⟨q, hl23, hz⟩ := Option.bind_eq_some_iff.1 h
  clear h
  have h := hz
  clear hz
  refine sat_loop hΩ (fun (a : (List Int) × Int) => (match a with | (l10, i11) => ([(0, PV.d (.sl (E.L_i_i64 a0_l) (E.X_i_i64 a0_x))), (2, PV.d (.sl [] (some []))), (3, PV.row 0 0 (ln l10)), (4, PV.d (.int .i64 i11))], ([X.Obj.row 3 1 (E.L_i_i64 l10) false (some (Ω.wrap .i64 (Ω.add n1 1)))] : List X.Obj) :: st))) (fun (q : ((List Int) × Int)) => (match q with | (o24, o25) => (.exit 0, [(0, PV.d (.sl (E.L_i_i64 a0_l) (E.X_i_i64 a0_x))), (2, PV.d (.sl [] (some []))), (3, PV.row 0 0 (ln o24)), (4, PV.d (.int .i64 o25))], ([X.Obj.row 3 1 (E.L_i_i64 o24) false (some (Ω.wrap .i64 (Ω.add n1 1)))] : List X.Obj) :: st))) ((List.replicate (Int.toNat 0) 0), 0) hl23 (by first | rfl | (subst_vars; rfl) | (subst_vars; simp only [ln_set])) ?_ ?_
  · clear h hl23
    rintro ⟨l10, i11⟩ q h
    unfold P20_s0 at h
    dsimp only at h
    obtain ⟨ln_l10, hln_l10⟩ : ∃ n, ln l10 = n := ⟨_, rfl⟩
    simp only [hln_l10]
    conv => arg 1; cbv
    refine sat_len hΩ (ro_i_i64 hE) a0_l (by first | rfl | (subst_vars; rfl)) fun n12 hn13 => ?_
    conv => arg 1; cbv
    refine sat_in hΩ ?_
    conv => arg 1; cbv
    replace h := bif_cases h
    rcases h with ⟨hb14, h⟩ | ⟨hb14, h⟩
    · refine sat_brt (by first | exact hb14 | (subst_vars; first | exact hb14 | rfl)) ?_
      conv => arg 1; cbv
      refine sat_true (fits_l hΩ (ro_i_i64 hE) a0_l (by first | rfl | (subst_vars; rfl))) ?_
      conv => arg 1; cbv
      obtain ⟨x15, hx16, hz⟩ := Option.bind_eq_some_iff.1 h
      clear h
      have h := hz
      clear hz
      refine sat_bind (nth_ok hΩ (ro_i_i64 hE) hx16 (by first | rfl | (subst_vars; rfl)) (by first | rfl | (subst_vars; rfl))) ?_
      conv => arg 1; cbv
      refine sat_true (ieq_ok hΩ _) ?_
      conv => arg 1; cbv
      refine sat_true (fits_l hΩ (ro_i_i64 hE) [x15] (by first | rfl | (subst_vars; rfl))) ?_
      conv => arg 1; cbv
      refine sat_true (len_ok hΩ (ro_i_i64 hE) l10 (by first | rfl | (subst_vars; rfl) | (subst_vars; simp only [ln_set])) (by first | rfl | (subst_vars; rfl) | (subst_vars; simp only [ln_set]))) ?_
      conv => arg 1; cbv
      refine sat_brf (len_zero hΩ (ro_i_i64 hE) (l := [x15]) (b := false) (by rfl) (by first | rfl | (subst_vars; rfl))) ?_
      conv => arg 1; cbv
      refine sat_cat hΩ (ro_i_i64 hE) l10 [x15] (by first | rfl | (subst_vars; rfl)) (by first | rfl | (subst_vars; rfl)) fun l17 hl18 n19 hn20 => ?_
      conv => arg 1; cbv
      replace h := bif_some h
      obtain ⟨hb21, h⟩ := h
      refine sat_true (by first | exact hb21 | (subst_vars; first | exact hb21 | rfl)) ?_
      conv => arg 1; cbv
      replace h := bif_some h
      obtain ⟨hb22, h⟩ := h
      refine sat_true (by first | exact hb22 | (subst_vars; first | exact hb22 | rfl)) ?_
      conv => arg 1; cbv
      obtain rfl := Option.some.inj h
      subst_vars
      first | exact sat_pure ⟨rfl, rfl, rfl⟩ | (refine sat_pure ⟨rfl, ?_, ?_⟩ <;> first | rfl | (dsimp only; simp only [ln_set]; rfl))
    · refine sat_brf (by first | exact hb14 | (subst_vars; first | exact hb14 | rfl)) ?_
      conv => arg 1; cbv
      obtain rfl := Option.some.inj h
      subst_vars
      first | exact sat_pure (.inl ⟨⟨_, rfl⟩, rfl⟩) | (refine sat_pure (.inl ⟨⟨_, rfl⟩, ?_⟩); dsimp only; simp only [ln_set]; rfl)
  · clear hl23
    rcases q with ⟨o24, o25⟩
    dsimp only at h
    obtain ⟨ln_o24, hln_o24⟩ : ∃ n, ln o24 = n := ⟨_, rfl⟩
    simp only [hln_o24]
    conv => arg 1; cbv
    refine sat_true (ieq_ok hΩ _) ?_
    conv => arg 1; cbv
    refine sat_true (fits_l hΩ (ro_i_i64 hE) [7777] (by first | rfl | (subst_vars; rfl))) ?_
    conv => arg 1; cbv
    refine sat_true (len_ok hΩ (ro_i_i64 hE) o24 (by first | rfl | (subst_vars; rfl) | (subst_vars; simp only [ln_set])) (by first | rfl | (subst_vars; rfl) | (subst_vars; simp only [ln_set]))) ?_
    conv => arg 1; cbv
    refine sat_brf (len_zero hΩ (ro_i_i64 hE) (l := [7777]) (b := false) (by rfl) (by first | rfl | (subst_vars; rfl))) ?_
    conv => arg 1; cbv
    refine sat_cat hΩ (ro_i_i64 hE) o24 [7777] (by first | rfl | (subst_vars; rfl)) (by first | rfl | (subst_vars; rfl)) fun l26 hl27 n28 hn29 => ?_
    conv => arg 1; cbv
    replace h := bif_some h
    obtain ⟨hb30, h⟩ := h
    refine sat_true (by first | exact hb30 | (subst_vars; first | exact hb30 | rfl)) ?_
    conv => arg 1; cbv
    replace h := bif_some h
    obtain ⟨hb31, h⟩ := h
    refine sat_true (by first | exact hb31 | (subst_vars; first | exact hb31 | rfl)) ?_
    conv => arg 1; cbv
    refine sat_len hΩ (ro_i_i64 hE) a0_l (by first | rfl | (subst_vars; rfl)) fun n32 hn33 => ?_
    conv => arg 1; cbv
    refine sat_true (len_ok hΩ (ro_i_i64 hE) (o24 ++ [7777]) (by first | rfl | (subst_vars; rfl) | (subst_vars; simp only [ln_set])) (by first | rfl | (subst_vars; rfl) | (subst_vars; simp only [ln_set]))) ?_
    conv => arg 1; cbv
    replace h := bif_cases h
    rcases h with ⟨hb34, h⟩ | ⟨hb34, h⟩
    · refine sat_brt (by first | exact hb34 | (subst_vars; first | exact hb34 | rfl)) ?_
      conv => arg 1; cbv
      refine sat_len hΩ (ro_i_i64 hE) (o24 ++ [7777]) (by first | rfl | (subst_vars; rfl)) fun n35 hn36 => ?_
      conv => arg 1; cbv
      refine sat_cat hΩ (ro_i_i64 hE) (o24 ++ [7777]) [] (by first | rfl | (subst_vars; rfl)) (by first | rfl | (subst_vars; rfl)) fun l37 hl38 n39 hn40 => ?_
      conv => arg 1; cbv
      replace h := bif_some h
      obtain ⟨hb41, h⟩ := h
      refine sat_true (by first | exact hb41 | (subst_vars; first | exact hb41 | rfl)) ?_
      conv => arg 1; cbv
      replace h := bif_some h
      obtain ⟨hb42, h⟩ := h
      refine sat_true (by first | exact hb42 | (subst_vars; first | exact hb42 | rfl)) ?_
      conv => arg 1; cbv
      replace h := bif_some h
      obtain ⟨hb43, h⟩ := h
      refine sat_true (by first | exact hb43 | (subst_vars; first | exact hb43 | rfl)) ?_
      conv => arg 1; cbv
      refine sat_cut hΩ (ro_i_i64 hE) ((o24 ++ [7777]) ++ []) 0 (ln a0_l) (by first | rfl | (subst_vars; rfl)) (by first | rfl | (subst_vars; rfl)) (by first | rfl | (subst_vars; rfl)) fun l44 hl45 => ?_
      conv => arg 1; cbv
      refine sat_cut hΩ (ro_i_i64 hE) ((o24 ++ [7777]) ++ []) (ln a0_l) (ln ((o24 ++ [7777]) ++ [])) (by first | rfl | (subst_vars; rfl)) (by first | rfl | (subst_vars; rfl)) (by first | rfl | (subst_vars; rfl)) fun l46 hl47 => ?_
      conv => arg 1; cbv
      obtain rfl := Option.some.inj h
      subst_vars
      exact sat_pure rfl
    · refine sat_brf (by first | exact hb34 | (subst_vars; first | exact hb34 | rfl)) ?_
      conv => arg 1; cbv
      refine sat_len hΩ (ro_i_i64 hE) (o24 ++ [7777]) (by first | rfl | (subst_vars; rfl)) fun n48 hn49 => ?_
      conv => arg 1; cbv
      replace h := bif_some h
      obtain ⟨hb50, h⟩ := h
      refine sat_true (by first | exact hb50 | (subst_vars; first | exact hb50 | rfl)) ?_
      conv => arg 1; cbv
      replace h := bif_some h
      obtain ⟨hb51, h⟩ := h
      refine sat_true (by first | exact hb51 | (subst_vars; first | exact hb51 | rfl)) ?_
      conv => arg 1; cbv
      replace h := bif_some h
      obtain ⟨hb52, h⟩ := h
      refine sat_true (by first | exact hb52 | (subst_vars; first | exact hb52 | rfl)) ?_
      conv => arg 1; cbv
      refine sat_cut hΩ (ro_i_i64 hE) (o24 ++ [7777]) 0 (ln a0_l) (by first | rfl | (subst_vars; rfl)) (by first | rfl | (subst_vars; rfl)) (by first | rfl | (subst_vars; rfl)) fun l53 hl54 => ?_
      conv => arg 1; cbv
      obtain rfl := Option.some.inj h
      subst_vars
      exact sat_pure rfl
set_option maxHeartbeats 4000000 in
theorem ok21 {Ω : Om} {E : Enc} (hΩ : real (call S) = Ω) (hE : theEnc = E) {fu : Nat} {a0 : Sl Int} {r : List Bool} (h : P21 fu a0 = some r) {args : List PV} (ha : [PV.d (.sl (E.L_i_i64 a0.l) (E.X_i_i64 a0.x))] = args) {n : Int} (hn : ln r = n) (fr : List X.Obj) (st : St) :
    Sat (Ω.cf 21 args (fr :: st)) (fun q => q = (PV.row 0 fr.length n, (fr ++ [.row 4 1 (E.L_bool r) true none]) :: st)) := by
  subst ha
  rcases a0 with ⟨a0_l, a0_x⟩
  rw [cf_body hΩ (f := 21) (fn := Try.f21) (x := c21) rfl rfl c21_ok rfl]
  unfold P21 at h
  try dsimp only at h
  conv => arg 1; cbv
  refine sat_nil hΩ (ro_bool hE) fun l1 hl2 => ?_
  conv => arg 1; cbv
  refine sat_len hΩ (ro_i_i64 hE) a0_l (by first | rfl | (subst_vars; rfl)) fun n3 hn4 => ?_
  conv => arg 1; cbv
  obtain ⟨q, hl22, hz⟩ := Option.bind_eq_some_iff.1 h
  clear h
  have h := hz
  clear hz
  refine sat_loop hΩ (fun (a : (List Bool) × Int × Int) => (match a with | (l5, i6, i7) => ([(0, PV.d (.sl (E.L_i_i64 a0_l) (E.X_i_i64 a0_x))), (2, PV.row 0 0 (ln l5)), (3, PV.d (.int .i64 i6)), (7, PV.d (.sl (E.L_i_i64 a0_l) (E.X_i_i64 a0_x))), (8, PV.d (.int .i64 n3)), (9, PV.d (.int .i64 i7))], ([X.Obj.row 4 1 (E.L_bool l5) true none] : List X.Obj) :: fr :: st))) (fun (q : ((List Bool) × Int × Int)) => (match q with | (o23, o24, o25) => (.exit 0, [(0, PV.d (.sl (E.L_i_i64 a0_l) (E.X_i_i64 a0_x))), (2, PV.row 0 0 (ln o23)), (3, PV.d (.int .i64 o24)), (7, PV.d (.sl (E.L_i_i64 a0_l) (E.X_i_i64 a0_x))), (8, PV.d (.int .i64 n3)), (9, PV.d (.int .i64 o25))], ([X.Obj.row 4 1 (E.L_bool o23) true none] : List X.Obj) :: fr :: st))) (([] : List Bool), 0, 0) hl22 (by first | rfl | (subst_vars; rfl) | (subst_vars; simp only [ln_set])) ?_ ?_
  · clear h hl22
    rintro ⟨l5, i6, i7⟩ q h
    unfold P21_s0 at h
    dsimp only at h
    obtain ⟨ln_l5, hln_l5⟩ : ∃ n, ln l5 = n := ⟨_, rfl⟩
    simp only [hln_l5]
    conv => arg 1; cbv
    refine sat_in hΩ ?_
    conv => arg 1; cbv
    replace h := bif_cases h
    rcases h with ⟨hb8, h⟩ | ⟨hb8, h⟩
    · refine sat_brt (by first | exact hb8 | (subst_vars; first | exact hb8 | rfl)) ?_
      conv => arg 1; cbv
      refine sat_true (fits_l hΩ (ro_i_i64 hE) a0_l (by first | rfl | (subst_vars; rfl))) ?_
      conv => arg 1; cbv
      obtain ⟨x9, hx10, hz⟩ := Option.bind_eq_some_iff.1 h
      clear h
      have h := hz
      clear hz
      refine sat_bind (nth_ok hΩ (ro_i_i64 hE) hx10 (by first | rfl | (subst_vars; rfl)) (by first | rfl | (subst_vars; rfl))) ?_
      conv => arg 1; cbv
      refine sat_in hΩ ?_
      conv => arg 1; cbv
      replace h := bif_cases h
      rcases h with ⟨hb11, h⟩ | ⟨hb11, h⟩
      · refine sat_brt (by first | exact hb11 | (subst_vars; first | exact hb11 | rfl)) ?_
        conv => arg 1; cbv
        refine sat_true (ieq_ok hΩ _) ?_
        conv => arg 1; cbv
        refine sat_true (fits_l hΩ (ro_bool hE) [decide (x9 < i6)] (by first | rfl | (subst_vars; rfl))) ?_
        conv => arg 1; cbv
        refine sat_true (len_ok hΩ (ro_bool hE) l5 (by first | rfl | (subst_vars; rfl) | (subst_vars; simp only [ln_set])) (by first | rfl | (subst_vars; rfl) | (subst_vars; simp only [ln_set]))) ?_
        conv => arg 1; cbv
        refine sat_brf (len_zero hΩ (ro_bool hE) (l := [decide (x9 < i6)]) (b := false) (by rfl) (by first | rfl | (subst_vars; rfl))) ?_
        conv => arg 1; cbv
        refine sat_cat hΩ (ro_bool hE) l5 [decide (x9 < i6)] (by first | rfl | (subst_vars; rfl)) (by first | rfl | (subst_vars; rfl)) fun l12 hl13 n14 hn15 => ?_
        conv => arg 1; cbv
        replace h := bif_some h
        obtain ⟨hb16, h⟩ := h
        refine sat_true (by first | exact hb16 | (subst_vars; first | exact hb16 | rfl)) ?_
        conv => arg 1; cbv
        obtain rfl := Option.some.inj h
        subst_vars
        first | exact sat_pure ⟨rfl, rfl, rfl⟩ | (refine sat_pure ⟨rfl, ?_, ?_⟩ <;> first | rfl | (dsimp only; simp only [ln_set]; rfl))
      · refine sat_brf (by first | exact hb11 | (subst_vars; first | exact hb11 | rfl)) ?_
        conv => arg 1; cbv
        refine sat_true (ieq_ok hΩ _) ?_
        conv => arg 1; cbv
        refine sat_true (fits_l hΩ (ro_bool hE) [decide (x9 < i6)] (by first | rfl | (subst_vars; rfl))) ?_
        conv => arg 1; cbv
        refine sat_true (len_ok hΩ (ro_bool hE) l5 (by first | rfl | (subst_vars; rfl) | (subst_vars; simp only [ln_set])) (by first | rfl | (subst_vars; rfl) | (subst_vars; simp only [ln_set]))) ?_
        conv => arg 1; cbv
        refine sat_brf (len_zero hΩ (ro_bool hE) (l := [decide (x9 < i6)]) (b := false) (by rfl) (by first | rfl | (subst_vars; rfl))) ?_
        conv => arg 1; cbv
        refine sat_cat hΩ (ro_bool hE) l5 [decide (x9 < i6)] (by first | rfl | (subst_vars; rfl)) (by first | rfl | (subst_vars; rfl)) fun l17 hl18 n19 hn20 => ?_
        conv => arg 1; cbv
        replace h := bif_some h
        obtain ⟨hb21, h⟩ := h
        refine sat_true (by first | exact hb21 | (subst_vars; first | exact hb21 | rfl)) ?_
        conv => arg 1; cbv
        obtain rfl := Option.some.inj h
        subst_vars
        first | exact sat_pure ⟨rfl, rfl, rfl⟩ | (refine sat_pure ⟨rfl, ?_, ?_⟩ <;> first | rfl | (dsimp only; simp only [ln_set]; rfl))
    · refine sat_brf (by first | exact hb8 | (subst_vars; first | exact hb8 | rfl)) ?_
      conv => arg 1; cbv
      obtain rfl := Option.some.inj h
      subst_vars
      first | exact sat_pure (.inl ⟨⟨_, rfl⟩, rfl⟩) | (refine sat_pure (.inl ⟨⟨_, rfl⟩, ?_⟩); dsimp only; simp only [ln_set]; rfl)
  · clear hl22
    rcases q with ⟨o23, o24, o25⟩
    dsimp only at h
    obtain ⟨ln_o23, hln_o23⟩ : ∃ n, ln o23 = n := ⟨_, rfl⟩
    simp only [hln_o23]
    conv => arg 1; cbv
    obtain rfl := Option.some.inj h
    subst_vars
    exact sat_pure (by cases fr <;> rfl)
set_option maxHeartbeats 4000000 in
theorem ok22 {Ω : Om} {E : Enc} (hΩ : real (call S) = Ω) (hE : theEnc = E) {fu : Nat} {a0 : Sl Int} {r : Sl Bool} (h : P22 fu a0 = some r) {args : List PV} (ha : [PV.d (.sl (E.L_i_i64 a0.l) (E.X_i_i64 a0.x))] = args) (st : St) :
    Sat (Ω.cf 22 args st) (fun q => q = (PV.d (.sl (E.L_bool r.l) (E.X_bool r.x)), st)) := by
  subst ha
  rcases a0 with ⟨a0_l, a0_x⟩
  rw [cf_body hΩ (f := 22) (fn := Try.f22) (x := c22) rfl rfl c22_ok rfl]
  unfold P22 at h
  try dsimp only at h
  conv => arg 1; cbv
  refine sat_nil hΩ (ro_bool hE) fun l1 hl2 => ?_
  conv => arg 1; cbv
  obtain ⟨q, hl30, hz⟩ := Option.bind_eq_some_iff.1 h
  clear h
  have h := hz
  clear hz
  refine sat_loop hΩ (fun (a : (List Bool) × Int × Int) => (match a with | (l3, i4, i5) => ([(0, PV.d (.sl (E.L_i_i64 a0_l) (E.X_i_i64 a0_x))), (2, PV.d (.sl [] (some []))), (3, PV.row 0 0 (ln l3)), (4, PV.d (.int .i64 i4)), (5, PV.d (.int .i64 i5))], ([X.Obj.row 4 1 (E.L_bool l3) false none] : List X.Obj) :: st))) (fun (q : ((List Bool) × Int × Int)) => (match q with | (o31, o32, o33) => (.exit 0, [(0, PV.d (.sl (E.L_i_i64 a0_l) (E.X_i_i64 a0_x))), (2, PV.d (.sl [] (some []))), (3, PV.row 0 0 (ln o31)), (4, PV.d (.int .i64 o32)), (5, PV.d (.int .i64 o33))], ([X.Obj.row 4 1 (E.L_bool o31) false none] : List X.Obj) :: st))) (([] : List Bool), (-1), 0) hl30 (by first | rfl | (subst_vars; rfl) | (subst_vars; simp only [ln_set])) ?_ ?_
  · clear h hl30
    rintro ⟨l3, i4, i5⟩ q h
    unfold P22_s0 at h
    dsimp only at h
    obtain ⟨ln_l3, hln_l3⟩ : ∃ n, ln l3 = n := ⟨_, rfl⟩
    simp only [hln_l3]
    conv => arg 1; cbv
    refine sat_len hΩ (ro_i_i64 hE) a0_l (by first | rfl | (subst_vars; rfl)) fun n6 hn7 => ?_
    conv => arg 1; cbv
    refine sat_in hΩ ?_
    conv => arg 1; cbv
    replace h := bif_cases h
    rcases h with ⟨hb8, h⟩ | ⟨hb8, h⟩
    · refine sat_brt (by first | exact hb8 | (subst_vars; first | exact hb8 | rfl)) ?_
      conv => arg 1; cbv
      refine sat_true (fits_l hΩ (ro_i_i64 hE) a0_l (by first | rfl | (subst_vars; rfl))) ?_
      conv => arg 1; cbv
      obtain ⟨x9, hx10, hz⟩ := Option.bind_eq_some_iff.1 h
      clear h
      have h := hz
      clear hz
      refine sat_bind (nth_ok hΩ (ro_i_i64 hE) hx10 (by first | rfl | (subst_vars; rfl)) (by first | rfl | (subst_vars; rfl))) ?_
      conv => arg 1; cbv
      replace h := bif_cases h
      rcases h with ⟨hb11, h⟩ | ⟨hb11, h⟩
      · refine sat_brt (by first | exact hb11 | (subst_vars; first | exact hb11 | rfl)) ?_
        conv => arg 1; cbv
        refine sat_true (fits_l hΩ (ro_i_i64 hE) a0_l (by first | rfl | (subst_vars; rfl))) ?_
        conv => arg 1; cbv
        obtain ⟨x12, hx13, hz⟩ := Option.bind_eq_some_iff.1 h
        clear h
        have h := hz
        clear hz
        refine sat_bind (nth_ok hΩ (ro_i_i64 hE) hx13 (by first | rfl | (subst_vars; rfl)) (by first | rfl | (subst_vars; rfl))) ?_
        conv => arg 1; cbv
        refine sat_tick hΩ ?_
        conv => arg 1; cbv
        refine sat_true (ieq_ok hΩ _) ?_
        conv => arg 1; cbv
        refine sat_true (fits_l hΩ (ro_bool hE) [decide (x12 < 0)] (by first | rfl | (subst_vars; rfl))) ?_
        conv => arg 1; cbv
        refine sat_true (len_ok hΩ (ro_bool hE) l3 (by first | rfl | (subst_vars; rfl) | (subst_vars; simp only [ln_set])) (by first | rfl | (subst_vars; rfl) | (subst_vars; simp only [ln_set]))) ?_
        conv => arg 1; cbv
        refine sat_brf (len_zero hΩ (ro_bool hE) (l := [decide (x12 < 0)]) (b := false) (by rfl) (by first | rfl | (subst_vars; rfl))) ?_
        conv => arg 1; cbv
        refine sat_cat hΩ (ro_bool hE) l3 [decide (x12 < 0)] (by first | rfl | (subst_vars; rfl)) (by first | rfl | (subst_vars; rfl)) fun l14 hl15 n16 hn17 => ?_
        conv => arg 1; cbv
        replace h := bif_some h
        obtain ⟨hb18, h⟩ := h
        refine sat_true (by first | exact hb18 | (subst_vars; first | exact hb18 | rfl)) ?_
        conv => arg 1; cbv
        refine sat_true (fits_l hΩ (ro_i_i64 hE) a0_l (by first | rfl | (subst_vars; rfl))) ?_
        conv => arg 1; cbv
        obtain ⟨x19, hx20, hz⟩ := Option.bind_eq_some_iff.1 h
        clear h
        have h := hz
        clear hz
        refine sat_bind (nth_ok hΩ (ro_i_i64 hE) hx20 (by first | rfl | (subst_vars; rfl)) (by first | rfl | (subst_vars; rfl))) ?_
        conv => arg 1; cbv
        replace h := bif_cases h
        rcases h with ⟨hb21, h⟩ | ⟨hb21, h⟩
        · refine sat_brt (by first | exact hb21 | (subst_vars; first | exact hb21 | rfl)) ?_
          conv => arg 1; cbv
          obtain rfl := Option.some.inj h
          subst_vars
          first | exact sat_pure ⟨rfl, rfl, rfl⟩ | (refine sat_pure ⟨rfl, ?_, ?_⟩ <;> first | rfl | (dsimp only; simp only [ln_set]; rfl))
        · refine sat_brf (by first | exact hb21 | (subst_vars; first | exact hb21 | rfl)) ?_
          conv => arg 1; cbv
          obtain rfl := Option.some.inj h
          subst_vars
          first | exact sat_pure ⟨rfl, rfl, rfl⟩ | (refine sat_pure ⟨rfl, ?_, ?_⟩ <;> first | rfl | (dsimp only; simp only [ln_set]; rfl))
      · refine sat_brf (by first | exact hb11 | (subst_vars; first | exact hb11 | rfl)) ?_
        conv => arg 1; cbv
        refine sat_tick hΩ ?_
        conv => arg 1; cbv
        refine sat_true (ieq_ok hΩ _) ?_
        conv => arg 1; cbv
        refine sat_true (fits_l hΩ (ro_bool hE) [true] (by first | rfl | (subst_vars; rfl))) ?_
        conv => arg 1; cbv
        refine sat_true (len_ok hΩ (ro_bool hE) l3 (by first | rfl | (subst_vars; rfl) | (subst_vars; simp only [ln_set])) (by first | rfl | (subst_vars; rfl) | (subst_vars; simp only [ln_set]))) ?_
        conv => arg 1; cbv
        refine sat_brf (len_zero hΩ (ro_bool hE) (l := [true]) (b := false) (by rfl) (by first | rfl | (subst_vars; rfl))) ?_
        conv => arg 1; cbv
        refine sat_cat hΩ (ro_bool hE) l3 [true] (by first | rfl | (subst_vars; rfl)) (by first | rfl | (subst_vars; rfl)) fun l22 hl23 n24 hn25 => ?_
        conv => arg 1; cbv
        replace h := bif_some h
        obtain ⟨hb26, h⟩ := h
        refine sat_true (by first | exact hb26 | (subst_vars; first | exact hb26 | rfl)) ?_
        conv => arg 1; cbv
        refine sat_true (fits_l hΩ (ro_i_i64 hE) a0_l (by first | rfl | (subst_vars; rfl))) ?_
        conv => arg 1; cbv
        obtain ⟨x27, hx28, hz⟩ := Option.bind_eq_some_iff.1 h
        clear h
        have h := hz
        clear hz
        refine sat_bind (nth_ok hΩ (ro_i_i64 hE) hx28 (by first | rfl | (subst_vars; rfl)) (by first | rfl | (subst_vars; rfl))) ?_
        conv => arg 1; cbv
        replace h := bif_cases h
        rcases h with ⟨hb29, h⟩ | ⟨hb29, h⟩
        · refine sat_brt (by first | exact hb29 | (subst_vars; first | exact hb29 | rfl)) ?_
          conv => arg 1; cbv
          obtain rfl := Option.some.inj h
          subst_vars
          first | exact sat_pure ⟨rfl, rfl, rfl⟩ | (refine sat_pure ⟨rfl, ?_, ?_⟩ <;> first | rfl | (dsimp only; simp only [ln_set]; rfl))
        · refine sat_brf (by first | exact hb29 | (subst_vars; first | exact hb29 | rfl)) ?_
          conv => arg 1; cbv
          obtain rfl := Option.some.inj h
          subst_vars
          first | exact sat_pure ⟨rfl, rfl, rfl⟩ | (refine sat_pure ⟨rfl, ?_, ?_⟩ <;> first | rfl | (dsimp only; simp only [ln_set]; rfl))
    · refine sat_brf (by first | exact hb8 | (subst_vars; first | exact hb8 | rfl)) ?_
      conv => arg 1; cbv
      obtain rfl := Option.some.inj h
      subst_vars
      first | exact sat_pure (.inl ⟨⟨_, rfl⟩, rfl⟩) | (refine sat_pure (.inl ⟨⟨_, rfl⟩, ?_⟩); dsimp only; simp only [ln_set]; rfl)
  · clear hl30
    rcases q with ⟨o31, o32, o33⟩
    dsimp only at h
    obtain ⟨ln_o31, hln_o31⟩ : ∃ n, ln o31 = n := ⟨_, rfl⟩
    simp only [hln_o31]
    conv => arg 1; cbv
    refine sat_true (len_ok hΩ (ro_bool hE) o31 (by first | rfl | (subst_vars; rfl)) (by first | rfl | (subst_vars; rfl))) ?_
    conv => arg 1; cbv
    obtain rfl := Option.some.inj h
    subst_vars
    exact sat_pure rfl
set_option maxHeartbeats 4000000 in
theorem ok23 {Ω : Om} {E : Enc} (hΩ : real (call S) = Ω) (hE : theEnc = E) {fu : Nat} {a0 : Sl Int} {a1 : Sl Int} {r : Bool} (h : P23 fu a0 a1 = some r) {args : List PV} (ha : [PV.d (.sl (E.L_i_i64 a0.l) (E.X_i_i64 a0.x)), PV.d (.sl (E.L_i_i64 a1.l) (E.X_i_i64 a1.x))] = args) (st : St) :
    Sat (Ω.cf 23 args st) (fun q => q = (PV.d (.bool r), st)) := by
  subst ha
  rcases a0 with ⟨a0_l, _ | a0_h⟩
  · rcases a1 with ⟨a1_l, a1_x⟩
    rw [cf_body hΩ (f := 23) (fn := Try.f23) (x := c23) rfl rfl c23_ok rfl]
    unfold P23 at h
    try dsimp only at h
    dsimp only []
    rw [show E.X_i_i64 none = none from by rw [(ro_i_i64 hE).2.1]; rfl]
    conv => arg 1; cbv
    refine sat_len hΩ (ro_i_i64 hE) a0_l (by first | rfl | (subst_vars; rfl)) fun n1 hn2 => ?_
    conv => arg 1; cbv
    refine sat_len hΩ (ro_i_i64 hE) a1_l (by first | rfl | (subst_vars; rfl)) fun n3 hn4 => ?_
    conv => arg 1; cbv
    replace h := bif_cases h
    rcases h with ⟨hb5, h⟩ | ⟨hb5, h⟩
    · cases h
    refine sat_brf (by first | exact hb5 | (subst_vars; first | exact hb5 | rfl)) ?_
    conv => arg 1; cbv
    refine sat_in hΩ ?_
    conv => arg 1; cbv
    obtain rfl := Option.some.inj h
    subst_vars
    exact sat_pure rfl
  · rcases a1 with ⟨a1_l, a1_x⟩
    rw [cf_body hΩ (f := 23) (fn := Try.f23) (x := c23) rfl rfl c23_ok rfl]
    unfold P23 at h
    try dsimp only at h
    dsimp only []
    rw [show E.X_i_i64 (some a0_h) = some (E.L_i_i64 a0_h) from by rw [(ro_i_i64 hE).2.1]; rfl]
    conv => arg 1; cbv
    refine sat_len hΩ (ro_i_i64 hE) a0_l (by first | rfl | (subst_vars; rfl)) fun n6 hn7 => ?_
    conv => arg 1; cbv
    refine sat_len hΩ (ro_i_i64 hE) a1_l (by first | rfl | (subst_vars; rfl)) fun n8 hn9 => ?_
    conv => arg 1; cbv
    replace h := bif_cases h
    rcases h with ⟨hb10, h⟩ | ⟨hb10, h⟩
    · refine sat_brt (by first | exact hb10 | (subst_vars; first | exact hb10 | rfl)) ?_
      conv => arg 1; cbv
      refine sat_cat hΩ (ro_i_i64 hE) a0_l a0_h (by first | rfl | (subst_vars; rfl)) (by first | rfl | (subst_vars; rfl)) fun l11 hl12 n13 hn14 => ?_
      conv => arg 1; cbv
      refine sat_len hΩ (ro_i_i64 hE) a1_l (by first | rfl | (subst_vars; rfl)) fun n15 hn16 => ?_
      conv => arg 1; cbv
      refine sat_in hΩ ?_
      conv => arg 1; cbv
      replace h := bif_cases h
      rcases h with ⟨hb17, h⟩ | ⟨hb17, h⟩
      · refine sat_brt (by first | exact hb17 | (subst_vars; first | exact hb17 | rfl)) ?_
        conv => arg 1; cbv
        obtain rfl := Option.some.inj h
        subst_vars
        exact sat_pure rfl
      · refine sat_brf (by first | exact hb17 | (subst_vars; first | exact hb17 | rfl)) ?_
        conv => arg 1; cbv
        obtain ⟨q, hl27, hz⟩ := Option.bind_eq_some_iff.1 h
        clear h
        have h := hz
        clear hz
        refine sat_loop hΩ (fun (a : Int) => (match a with | i18 => ([(0, PV.d (.sl (E.L_i_i64 a0_l) (some (E.L_i_i64 a0_h)))), (1, PV.d (.sl (E.L_i_i64 a1_l) (E.X_i_i64 a1_x))), (4, PV.d (.bool false)), (5, PV.d (.int .i64 i18))], ([] : List X.Obj) :: st))) (fun (q : Int ⊕ Int) => (match q with | .inl o28 => (.exit 0, [(0, PV.d (.sl (E.L_i_i64 a0_l) (some (E.L_i_i64 a0_h)))), (1, PV.d (.sl (E.L_i_i64 a1_l) (E.X_i_i64 a1_x))), (4, PV.d (.bool false)), (5, PV.d (.int .i64 o28))], ([] : List X.Obj) :: st) | .inr o48 => (.ret, [(0, PV.d (.sl (E.L_i_i64 a0_l) (some (E.L_i_i64 a0_h)))), (1, PV.d (.sl (E.L_i_i64 a1_l) (E.X_i_i64 a1_x))), (4, PV.d (.bool false)), (5, PV.d (.int .i64 o48))], ([] : List X.Obj) :: st))) 0 hl27 (by first | rfl | (subst_vars; rfl) | (subst_vars; simp only [ln_set])) ?_ ?_
        · clear h hl27
          rintro i18 q h
          unfold P23_s0 at h
          dsimp only at h
          conv => arg 1; cbv
          refine sat_len hΩ (ro_i_i64 hE) a1_l (by first | rfl | (subst_vars; rfl)) fun n19 hn20 => ?_
          conv => arg 1; cbv
          refine sat_in hΩ ?_
          conv => arg 1; cbv
          replace h := bif_cases h
          rcases h with ⟨hb21, h⟩ | ⟨hb21, h⟩
          · refine sat_brt (by first | exact hb21 | (subst_vars; first | exact hb21 | rfl)) ?_
            conv => arg 1; cbv
            refine sat_true (fits_l hΩ (ro_i_i64 hE) a0_l (by first | rfl | (subst_vars; rfl))) ?_
            conv => arg 1; cbv
            obtain ⟨x22, hx23, hz⟩ := Option.bind_eq_some_iff.1 h
            clear h
            have h := hz
            clear hz
            refine sat_bind (nth_ok hΩ (ro_i_i64 hE) hx23 (by first | rfl | (subst_vars; rfl)) (by first | rfl | (subst_vars; rfl))) ?_
            conv => arg 1; cbv
            refine sat_true (fits_l hΩ (ro_i_i64 hE) a1_l (by first | rfl | (subst_vars; rfl))) ?_
            conv => arg 1; cbv
            obtain ⟨x24, hx25, hz⟩ := Option.bind_eq_some_iff.1 h
            clear h
            have h := hz
            clear hz
            refine sat_bind (nth_ok hΩ (ro_i_i64 hE) hx25 (by first | rfl | (subst_vars; rfl)) (by first | rfl | (subst_vars; rfl))) ?_
            conv => arg 1; cbv
            refine sat_in hΩ ?_
            conv => arg 1; cbv
            replace h := bif_cases h
            rcases h with ⟨hb26, h⟩ | ⟨hb26, h⟩
            · refine sat_brt (by first | exact hb26 | (subst_vars; first | exact hb26 | rfl)) ?_
              conv => arg 1; cbv
              obtain rfl := Option.some.inj h
              subst_vars
              first | exact sat_pure (.inr ⟨rfl, rfl⟩) | (refine sat_pure (.inr ⟨rfl, ?_⟩); dsimp only; simp only [ln_set]; rfl)
            · refine sat_brf (by first | exact hb26 | (subst_vars; first | exact hb26 | rfl)) ?_
              conv => arg 1; cbv
              obtain rfl := Option.some.inj h
              subst_vars
              first | exact sat_pure ⟨rfl, rfl, rfl⟩ | (refine sat_pure ⟨rfl, ?_, ?_⟩ <;> first | rfl | (dsimp only; simp only [ln_set]; rfl))
          · refine sat_brf (by first | exact hb21 | (subst_vars; first | exact hb21 | rfl)) ?_
            conv => arg 1; cbv
            obtain rfl := Option.some.inj h
            subst_vars
            first | exact sat_pure (.inl ⟨⟨_, rfl⟩, rfl⟩) | (refine sat_pure (.inl ⟨⟨_, rfl⟩, ?_⟩); dsimp only; simp only [ln_set]; rfl)
        · clear hl27
          rcases q with o28 | o48
          · dsimp only at h
            conv => arg 1; cbv
            refine sat_len hΩ (ro_i_i64 hE) a1_l (by first | rfl | (subst_vars; rfl)) fun n29 hn30 => ?_
            conv => arg 1; cbv
            refine sat_true (fits_x hΩ (ro_i_i64 hE) a0_l (some a0_h) (by first | rfl | (subst_vars; rfl)) (by first | rfl | (subst_vars; rfl))) ?_
            conv => arg 1; cbv
            refine sat_len hΩ (ro_i_i64 hE) a0_l (by first | rfl | (subst_vars; rfl)) fun n31 hn32 => ?_
            conv => arg 1; cbv
            refine sat_cat hΩ (ro_i_i64 hE) a0_l a0_h (by first | rfl | (subst_vars; rfl)) (by first | rfl | (subst_vars; rfl)) fun l33 hl34 n35 hn36 => ?_
            conv => arg 1; cbv
            replace h := bif_some h
            obtain ⟨hb37, h⟩ := h
            refine sat_true (by first | exact hb37 | (subst_vars; first | exact hb37 | rfl)) ?_
            conv => arg 1; cbv
            replace h := bif_some h
            obtain ⟨hb38, h⟩ := h
            refine sat_true (by first | exact hb38 | (subst_vars; first | exact hb38 | rfl)) ?_
            conv => arg 1; cbv
            replace h := bif_some h
            obtain ⟨hb39, h⟩ := h
            refine sat_true (by first | exact hb39 | (subst_vars; first | exact hb39 | rfl)) ?_
            conv => arg 1; cbv
            refine sat_cut hΩ (ro_i_i64 hE) (a0_l ++ a0_h) 0 (w64 ((ln a1_l) + 1)) (by first | rfl | (subst_vars; rfl)) (by first | rfl | (subst_vars; rfl)) (by first | rfl | (subst_vars; rfl)) fun l40 hl41 => ?_
            conv => arg 1; cbv
            refine sat_cut hΩ (ro_i_i64 hE) (a0_l ++ a0_h) (w64 ((ln a1_l) + 1)) (ln (a0_l ++ a0_h)) (by first | rfl | (subst_vars; rfl)) (by first | rfl | (subst_vars; rfl)) (by first | rfl | (subst_vars; rfl)) fun l42 hl43 => ?_
            conv => arg 1; cbv
            refine sat_len hΩ (ro_i_i64 hE) a1_l (by first | rfl | (subst_vars; rfl)) fun n44 hn45 => ?_
            conv => arg 1; cbv
            refine sat_true (fits_l hΩ (ro_i_i64 hE) (cut (a0_l ++ a0_h) 0 (w64 ((ln a1_l) + 1))) (by first | rfl | (subst_vars; rfl))) ?_
            conv => arg 1; cbv
            obtain ⟨x46, hx47, hz⟩ := Option.bind_eq_some_iff.1 h
            clear h
            have h := hz
            clear hz
            refine sat_bind (nth_ok hΩ (ro_i_i64 hE) hx47 (by first | rfl | (subst_vars; rfl)) (by first | rfl | (subst_vars; rfl))) ?_
            conv => arg 1; cbv
            obtain rfl := Option.some.inj h
            subst_vars
            exact sat_pure rfl
          · dsimp only at h
            conv => arg 1; cbv
            obtain rfl := Option.some.inj h
            subst_vars
            exact sat_pure rfl
    · refine sat_brf (by first | exact hb10 | (subst_vars; first | exact hb10 | rfl)) ?_
      conv => arg 1; cbv
      refine sat_in hΩ ?_
      conv => arg 1; cbv
      obtain rfl := Option.some.inj h
      subst_vars
      exact sat_pure rfl
set_option maxHeartbeats 4000000 in
theorem ok4 {Ω : Om} {E : Enc} (hΩ : real (call S) = Ω) (hE : theEnc = E) {fu : Nat} {a0 : Sl Int} {r : Bool} (h : P4 fu a0 = some r) {args : List PV} (ha : [PV.d (.sl (E.L_i_i64 a0.l) (E.X_i_i64 a0.x))] = args) (st : St) :
    Sat (Ω.cf 4 args st) (fun q => q = (PV.d (.bool r), st)) := by
  subst ha
  rcases a0 with ⟨a0_l, a0_x⟩
  rw [cf_body hΩ (f := 4) (fn := Try.f4) (x := c4) rfl rfl c4_ok rfl]
  unfold P4 at h
  try dsimp only at h
  conv => arg 1; cbv
  refine sat_len hΩ (ro_i_i64 hE) a0_l (by first | rfl | (subst_vars; rfl)) fun n1 hn2 => ?_
  conv => arg 1; cbv
  obtain ⟨r3, hx4, hz⟩ := Option.bind_eq_some_iff.1 h
  clear h
  have h := hz
  clear hz
  refine sat_call (ok19 hΩ hE hx4 (by subst_vars; rfl) _) ?_
  conv => arg 1; cbv
  refine sat_in hΩ ?_
  conv => arg 1; cbv
  replace h := bif_cases h
  rcases h with ⟨hb5, h⟩ | ⟨hb5, h⟩
  · refine sat_brt (by first | exact hb5 | (subst_vars; first | exact hb5 | rfl)) ?_
    conv => arg 1; cbv
    obtain rfl := Option.some.inj h
    subst_vars
    exact sat_pure rfl
  · refine sat_brf (by first | exact hb5 | (subst_vars; first | exact hb5 | rfl)) ?_
    conv => arg 1; cbv
    obtain ⟨⟨r6_l, r6_x⟩, hx7, hz⟩ := Option.bind_eq_some_iff.1 h
    clear h
    have h := hz
    clear hz
    try dsimp only at h
    refine sat_call (ok20 hΩ hE hx7 (by subst_vars; rfl) _) ?_
    conv => arg 1; cbv
    obtain ⟨r8, hx9, hz⟩ := Option.bind_eq_some_iff.1 h
    clear h
    have h := hz
    clear hz
    obtain ⟨n10, hn11⟩ : ∃ n, ln r8 = n := ⟨_, rfl⟩
    refine sat_call (ok21 hΩ hE hx9 (by subst_vars; rfl) hn11 _ _) ?_
    conv => arg 1; cbv
    obtain ⟨r12, hx13, hz⟩ := Option.bind_eq_some_iff.1 h
    clear h
    have h := hz
    clear hz
    obtain ⟨n14, hn15⟩ : ∃ n, ln r12 = n := ⟨_, rfl⟩
    refine sat_call (ok21 hΩ hE hx13 (by subst_vars; rfl) hn15 _ _) ?_
    conv => arg 1; cbv
    obtain ⟨⟨r16_l, r16_x⟩, hx17, hz⟩ := Option.bind_eq_some_iff.1 h
    clear h
    have h := hz
    clear hz
    try dsimp only at h
    refine sat_call (ok22 hΩ hE hx17 (by subst_vars; rfl) _) ?_
    conv => arg 1; cbv
    refine sat_len hΩ (ro_bool hE) r16_l (by first | rfl | (subst_vars; rfl)) fun n18 hn19 => ?_
    conv => arg 1; cbv
    replace h := bif_cases h
    rcases h with ⟨hb20, h⟩ | ⟨hb20, h⟩
    · refine sat_brt (by first | exact hb20 | (subst_vars; first | exact hb20 | rfl)) ?_
      conv => arg 1; cbv
      refine sat_len hΩ (ro_bool hE) r16_l (by first | rfl | (subst_vars; rfl)) fun n21 hn22 => ?_
      conv => arg 1; cbv
      refine sat_tick hΩ ?_
      conv => arg 1; cbv
      replace h := bif_cases h
      rcases h with ⟨hb23, h⟩ | ⟨hb23, h⟩
      · refine sat_brt (by first | exact hb23 | (subst_vars; first | exact hb23 | rfl)) ?_
        conv => arg 1; cbv
        obtain ⟨r24, hx25, hz⟩ := Option.bind_eq_some_iff.1 h
        clear h
        have h := hz
        clear hz
        refine sat_call (ok23 hΩ hE hx25 (by subst_vars; rfl) _) ?_
        conv => arg 1; cbv
        refine sat_in hΩ ?_
        conv => arg 1; cbv
        replace h := bif_cases h
        rcases h with ⟨hb26, h⟩ | ⟨hb26, h⟩
        · refine sat_brt (by first | exact hb26 | (subst_vars; first | exact hb26 | rfl)) ?_
          conv => arg 1; cbv
          obtain rfl := Option.some.inj h
          subst_vars
          exact sat_pure rfl
        · refine sat_brf (by first | exact hb26 | (subst_vars; first | exact hb26 | rfl)) ?_
          conv => arg 1; cbv
          obtain ⟨q, hl52, hz⟩ := Option.bind_eq_some_iff.1 h
          clear h
          have h := hz
          clear hz
          refine sat_loop hΩ (fun (a : (List Bool) × Int) => (match a with | (l27, i28) => ([(0, PV.d (.sl (E.L_i_i64 a0_l) (E.X_i_i64 a0_x))), (2, PV.d (.bool false)), (3, PV.d (.sl (E.L_i_i64 r6_l) (E.X_i_i64 r6_x))), (4, PV.row 0 0 (ln l27)), (5, PV.row 0 1 n14), (6, PV.d (.sl (E.L_bool r16_l) (E.X_bool r16_x))), (7, PV.d (.int .i64 i28))], ([X.Obj.row 4 1 (E.L_bool l27) true none, X.Obj.row 4 1 (E.L_bool r12) true none] : List X.Obj) :: st))) (fun (q : ((List Bool) × Int) ⊕ ((List Bool) × Int)) => (match q with | .inl (o53, o54) => (.exit 0, [(0, PV.d (.sl (E.L_i_i64 a0_l) (E.X_i_i64 a0_x))), (2, PV.d (.bool false)), (3, PV.d (.sl (E.L_i_i64 r6_l) (E.X_i_i64 r6_x))), (4, PV.row 0 0 (ln o53)), (5, PV.row 0 1 n14), (6, PV.d (.sl (E.L_bool r16_l) (E.X_bool r16_x))), (7, PV.d (.int .i64 o54))], ([X.Obj.row 4 1 (E.L_bool o53) true none, X.Obj.row 4 1 (E.L_bool r12) true none] : List X.Obj) :: st) | .inr (o55, o56) => (.ret, [(0, PV.d (.sl (E.L_i_i64 a0_l) (E.X_i_i64 a0_x))), (2, PV.d (.bool false)), (3, PV.d (.sl (E.L_i_i64 r6_l) (E.X_i_i64 r6_x))), (4, PV.row 0 0 (ln o55)), (5, PV.row 0 1 n14), (6, PV.d (.sl (E.L_bool r16_l) (E.X_bool r16_x))), (7, PV.d (.int .i64 o56))], ([X.Obj.row 4 1 (E.L_bool o55) true none, X.Obj.row 4 1 (E.L_bool r12) true none] : List X.Obj) :: st))) (r8, 0) hl52 (by first | rfl | (subst_vars; rfl) | (subst_vars; simp only [ln_set])) ?_ ?_
          · clear h hl52
            rintro ⟨l27, i28⟩ q h
            unfold P4_s0 at h
            dsimp only at h
            obtain ⟨ln_l27, hln_l27⟩ : ∃ n, ln l27 = n := ⟨_, rfl⟩
            simp only [hln_l27]
            conv => arg 1; cbv
            refine sat_in hΩ ?_
            conv => arg 1; cbv
            replace h := bif_cases h
            rcases h with ⟨hb29, h⟩ | ⟨hb29, h⟩
            · refine sat_brt (by first | exact hb29 | (subst_vars; first | exact hb29 | rfl)) ?_
              conv => arg 1; cbv
              refine sat_true (len_ok hΩ (ro_bool hE) l27 (by first | rfl | (subst_vars; rfl) | (subst_vars; simp only [ln_set])) (by first | rfl | (subst_vars; rfl) | (subst_vars; simp only [ln_set]))) ?_
              conv => arg 1; cbv
              obtain ⟨x30, hx31, hz⟩ := Option.bind_eq_some_iff.1 h
              clear h
              have h := hz
              clear hz
              refine sat_bind (nth_ok hΩ (ro_bool hE) hx31 (by first | rfl | (subst_vars; rfl)) (by first | rfl | (subst_vars; rfl))) ?_
              conv => arg 1; cbv
              refine sat_true (len_ok hΩ (ro_bool hE) l27 (by first | rfl | (subst_vars; rfl) | (subst_vars; simp only [ln_set])) (by first | rfl | (subst_vars; rfl) | (subst_vars; simp only [ln_set]))) ?_
              conv => arg 1; cbv
              refine sat_bind (nth_ok hΩ (ro_bool hE) hx31 (by first | rfl | (subst_vars; rfl)) (by first | rfl | (subst_vars; rfl))) ?_
              conv => arg 1; cbv
              refine sat_true (fits_l hΩ (ro_bool hE) r16_l (by first | rfl | (subst_vars; rfl))) ?_
              conv => arg 1; cbv
              obtain ⟨x32, hx33, hz⟩ := Option.bind_eq_some_iff.1 h
              clear h
              have h := hz
              clear hz
              refine sat_bind (nth_ok hΩ (ro_bool hE) hx33 (by first | rfl | (subst_vars; rfl)) (by first | rfl | (subst_vars; rfl))) ?_
              conv => arg 1; cbv
              replace h := bif_cases h
              rcases h with ⟨hb34, h⟩ | ⟨hb34, h⟩
              · refine sat_brt (by first | exact hb34 | (subst_vars; first | exact hb34 | rfl)) ?_
                conv => arg 1; cbv
                refine sat_tick hΩ ?_
                conv => arg 1; cbv
                refine sat_true (len_ok hΩ (ro_bool hE) r12 (by first | rfl | (subst_vars; rfl) | (subst_vars; simp only [ln_set])) (by first | rfl | (subst_vars; rfl) | (subst_vars; simp only [ln_set]))) ?_
                conv => arg 1; cbv
                obtain ⟨x35, hx36, hz⟩ := Option.bind_eq_some_iff.1 h
                clear h
                have h := hz
                clear hz
                refine sat_bind (nth_ok hΩ (ro_bool hE) hx36 (by first | rfl | (subst_vars; rfl)) (by first | rfl | (subst_vars; rfl))) ?_
                conv => arg 1; cbv
                refine sat_true (len_ok hΩ (ro_bool hE) r12 (by first | rfl | (subst_vars; rfl) | (subst_vars; simp only [ln_set])) (by first | rfl | (subst_vars; rfl) | (subst_vars; simp only [ln_set]))) ?_
                conv => arg 1; cbv
                refine sat_bind (nth_ok hΩ (ro_bool hE) hx36 (by first | rfl | (subst_vars; rfl)) (by first | rfl | (subst_vars; rfl))) ?_
                conv => arg 1; cbv
                refine sat_true (fits_l hΩ (ro_bool hE) r16_l (by first | rfl | (subst_vars; rfl))) ?_
                conv => arg 1; cbv
                obtain ⟨x37, hx38, hz⟩ := Option.bind_eq_some_iff.1 h
                clear h
                have h := hz
                clear hz
                refine sat_bind (nth_ok hΩ (ro_bool hE) hx38 (by first | rfl | (subst_vars; rfl)) (by first | rfl | (subst_vars; rfl))) ?_
                conv => arg 1; cbv
                refine sat_in hΩ ?_
                conv => arg 1; cbv
                replace h := bif_cases h
                rcases h with ⟨hb39, h⟩ | ⟨hb39, h⟩
                · refine sat_brt (by first | exact hb39 | (subst_vars; first | exact hb39 | rfl)) ?_
                  conv => arg 1; cbv
                  obtain rfl := Option.some.inj h
                  subst_vars
                  first | exact sat_pure (.inr ⟨rfl, rfl⟩) | (refine sat_pure (.inr ⟨rfl, ?_⟩); dsimp only; simp only [ln_set]; rfl)
                · refine sat_brf (by first | exact hb39 | (subst_vars; first | exact hb39 | rfl)) ?_
                  conv => arg 1; cbv
                  refine sat_true (len_ok hΩ (ro_bool hE) l27 (by first | rfl | (subst_vars; rfl) | (subst_vars; simp only [ln_set])) (by first | rfl | (subst_vars; rfl) | (subst_vars; simp only [ln_set]))) ?_
                  conv => arg 1; cbv
                  obtain ⟨x40, hx41, hz⟩ := Option.bind_eq_some_iff.1 h
                  clear h
                  have h := hz
                  clear hz
                  refine sat_bind (nth_ok hΩ (ro_bool hE) hx41 (by first | rfl | (subst_vars; rfl)) (by first | rfl | (subst_vars; rfl))) ?_
                  conv => arg 1; cbv
                  refine sat_true (len_ok hΩ (ro_bool hE) l27 (by first | rfl | (subst_vars; rfl) | (subst_vars; simp only [ln_set])) (by first | rfl | (subst_vars; rfl) | (subst_vars; simp only [ln_set]))) ?_
                  conv => arg 1; cbv
                  refine sat_bind (nth_ok hΩ (ro_bool hE) hx41 (by first | rfl | (subst_vars; rfl)) (by first | rfl | (subst_vars; rfl))) ?_
                  conv => arg 1; cbv
                  refine sat_true (len_ok hΩ (ro_bool hE) l27 (by first | rfl | (subst_vars; rfl) | (subst_vars; simp only [ln_set])) (by first | rfl | (subst_vars; rfl) | (subst_vars; simp only [ln_set]))) ?_
                  conv => arg 1; cbv
                  obtain ⟨x42, hx43, hz⟩ := Option.bind_eq_some_iff.1 h
                  clear h
                  have h := hz
                  clear hz
                  refine sat_bind (nth_ok hΩ (ro_bool hE) hx43 (by first | rfl | (subst_vars; rfl)) (by first | rfl | (subst_vars; rfl))) ?_
                  conv => arg 1; cbv
                  refine sat_true (len_ok hΩ (ro_bool hE) l27 (by first | rfl | (subst_vars; rfl) | (subst_vars; simp only [ln_set])) (by first | rfl | (subst_vars; rfl) | (subst_vars; simp only [ln_set]))) ?_
                  conv => arg 1; cbv
                  refine sat_bind (nth_ok hΩ (ro_bool hE) hx43 (by first | rfl | (subst_vars; rfl)) (by first | rfl | (subst_vars; rfl))) ?_
                  conv => arg 1; cbv
                  refine sat_set hΩ (ro_bool hE) l27 i28 (!x40) (by first | rfl | (subst_vars; rfl)) (by first | rfl | (subst_vars; rfl)) (by first | rfl | (subst_vars; rfl)) fun l44 hl45 => ?_
                  conv => arg 1; cbv
                  refine sat_true (len_ok hΩ (ro_bool hE) r12 (by first | rfl | (subst_vars; rfl) | (subst_vars; simp only [ln_set])) (by first | rfl | (subst_vars; rfl) | (subst_vars; simp only [ln_set]))) ?_
                  conv => arg 1; cbv
                  obtain ⟨x47, hx48, hz⟩ := Option.bind_eq_some_iff.1 h
                  clear h
                  have h := hz
                  clear hz
                  refine sat_bind (nth_ok hΩ (ro_bool hE) hx48 (by first | rfl | (subst_vars; rfl)) (by first | rfl | (subst_vars; rfl))) ?_
                  conv => arg 1; cbv
                  refine sat_true (len_ok hΩ (ro_bool hE) r12 (by first | rfl | (subst_vars; rfl) | (subst_vars; simp only [ln_set])) (by first | rfl | (subst_vars; rfl) | (subst_vars; simp only [ln_set]))) ?_
                  conv => arg 1; cbv
                  refine sat_bind (nth_ok hΩ (ro_bool hE) hx48 (by first | rfl | (subst_vars; rfl)) (by first | rfl | (subst_vars; rfl))) ?_
                  conv => arg 1; cbv
                  refine sat_true (fits_l hΩ (ro_bool hE) r16_l (by first | rfl | (subst_vars; rfl))) ?_
                  conv => arg 1; cbv
                  obtain ⟨x49, hx50, hz⟩ := Option.bind_eq_some_iff.1 h
                  clear h
                  have h := hz
                  clear hz
                  refine sat_bind (nth_ok hΩ (ro_bool hE) hx50 (by first | rfl | (subst_vars; rfl)) (by first | rfl | (subst_vars; rfl))) ?_
                  conv => arg 1; cbv
                  refine sat_in hΩ ?_
                  conv => arg 1; cbv
                  replace h := bif_cases h
                  rcases h with ⟨hb51, h⟩ | ⟨hb51, h⟩
                  · refine sat_brt (by first | exact hb51 | (subst_vars; first | exact hb51 | rfl)) ?_
                    conv => arg 1; cbv
                    obtain rfl := Option.some.inj h
                    subst_vars
                    first | exact sat_pure (.inr ⟨rfl, rfl⟩) | (refine sat_pure (.inr ⟨rfl, ?_⟩); dsimp only; simp only [ln_set]; rfl)
                  · refine sat_brf (by first | exact hb51 | (subst_vars; first | exact hb51 | rfl)) ?_
                    conv => arg 1; cbv
                    obtain rfl := Option.some.inj h
                    subst_vars
                    first | exact sat_pure ⟨rfl, rfl, rfl⟩ | (refine sat_pure ⟨rfl, ?_, ?_⟩ <;> first | rfl | (dsimp only; simp only [ln_set]; rfl))
              · refine sat_brf (by first | exact hb34 | (subst_vars; first | exact hb34 | rfl)) ?_
                conv => arg 1; cbv
                refine sat_tick hΩ ?_
                conv => arg 1; cbv
                refine sat_in hΩ ?_
                conv => arg 1; cbv
                obtain rfl := Option.some.inj h
                subst_vars
                first | exact sat_pure (.inr ⟨rfl, rfl⟩) | (refine sat_pure (.inr ⟨rfl, ?_⟩); dsimp only; simp only [ln_set]; rfl)
            · refine sat_brf (by first | exact hb29 | (subst_vars; first | exact hb29 | rfl)) ?_
              conv => arg 1; cbv
              obtain rfl := Option.some.inj h
              subst_vars
              first | exact sat_pure (.inl ⟨⟨_, rfl⟩, rfl⟩) | (refine sat_pure (.inl ⟨⟨_, rfl⟩, ?_⟩); dsimp only; simp only [ln_set]; rfl)
          · clear hl52
            rcases q with ⟨o53, o54⟩ | ⟨o55, o56⟩
            · dsimp only at h
              obtain ⟨ln_o53, hln_o53⟩ : ∃ n, ln o53 = n := ⟨_, rfl⟩
              simp only [hln_o53]
              conv => arg 1; cbv
              obtain rfl := Option.some.inj h
              subst_vars
              exact sat_pure rfl
            · dsimp only at h
              obtain ⟨ln_o55, hln_o55⟩ : ∃ n, ln o55 = n := ⟨_, rfl⟩
              simp only [hln_o55]
              conv => arg 1; cbv
              obtain rfl := Option.some.inj h
              subst_vars
              exact sat_pure rfl
      · refine sat_brf (by first | exact hb23 | (subst_vars; first | exact hb23 | rfl)) ?_
        conv => arg 1; cbv
        refine sat_in hΩ ?_
        conv => arg 1; cbv
        obtain rfl := Option.some.inj h
        subst_vars
        exact sat_pure rfl
    · refine sat_brf (by first | exact hb20 | (subst_vars; first | exact hb20 | rfl)) ?_
      conv => arg 1; cbv
      refine sat_tick hΩ ?_
      conv => arg 1; cbv
      refine sat_in hΩ ?_
      conv => arg 1; cbv
      obtain rfl := Option.some.inj h
      subst_vars
      exact sat_pure rfl
end Go.Proofs.Ytamllgdaepjcfaa
