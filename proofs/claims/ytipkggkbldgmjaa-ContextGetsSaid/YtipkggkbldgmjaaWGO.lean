/- The interpreter computes just these functions: printed by a small program. -/
import Derived.Test.YtipkggkbldgmjaaWGD
namespace Go.Proofs.Ytipkggkbldgmjaa
open Go Go.X
set_option linter.unusedVariables false
set_option linter.unusedSimpArgs false
set_option maxRecDepth 100000
set_option maxHeartbeats 4000000 in
theorem ok48 {Ω : Om} {E : Enc} (hΩ : real (call S) = Ω) (hE : theEnc = E) {fu : Nat} {a0 : Sl Field} {r : (List Field)} (h : P48 fu a0 = some r) {args : List PV} (ha : [PV.d (.sl (E.L_Field a0.l) (E.X_Field a0.x))] = args) {st : St} (hH : X.hasL st 0 = true) {n : Int} (hn : ln r = n) :
    Sat (Ω.cf 48 args st) (fun q => q = (PV.row 0 (X.numO st 0) n, X.addO st 0 (X.Obj.row 49 9 (E.L_Field r) true none))) := by
  subst ha
  rcases a0 with ⟨a0_l, a0_x⟩
  rw [cf_body hΩ (f := 48) (fn := Try.f48) (x := c48) rfl rfl c48_ok rfl rfl rfl]
  unfold P48 at h
  try dsimp only at h
  conv => arg 1; cbv
  refine sat_nil hΩ (ro_Field hE) fun l1 hl2 => ?_
  conv => arg 1; cbv
  refine sat_in hΩ ?_
  conv => arg 1; cbv
  replace h := bif_cases h
  rcases h with ⟨hb3, h⟩ | ⟨hb3, h⟩
  · refine sat_brt (len_zero hΩ (ro_Field hE) (l := a0_l) hb3 (by first | rfl | ((try clear h); subst_vars; rfl))) ?_
    conv => arg 1; cbv
    obtain ⟨ha16, hb17⟩ := agree_some h
    clear h
    refine sat_both hΩ ?_ ?_
    · clear hb17
      have h := ha16
      clear ha16
      conv => arg 1; cbv
      refine sat_nil hΩ (ro_Field hE) fun l4 hl5 => ?_
      conv => arg 1; cbv
      refine sat_addfar' hΩ hH fun kk st2 hk2 hs2 => ?_
      conv => arg 1; cbv
      obtain rfl := Option.some.inj h
      subst_vars
      exact sat_pure rfl
    · clear ha16
      have h := hb17
      clear hb17
      conv => arg 1; cbv
      obtain ⟨q, hq15, hz⟩ := Option.bind_eq_some_iff.1 h
      clear h
      have h := hz
      clear hz
      refine sat_grp hΩ ((fun (q : (List Field)) => (match q with | l14 => ([(0, PV.d (.sl (E.L_Field a0_l) (E.X_Field a0_x))), (2, PV.row 0 1 (ln l14))], ([X.Obj.row 49 9 (E.L_Field l1) true none, X.Obj.row 49 9 (E.L_Field l14) true none] : List X.Obj) :: st))) q) (fun k hk => ?_) ?_
      · clear h
        have h := hq15
        clear hq15
        conv => arg 1; cbv
        refine sat_nil hΩ (ro_Field hE) fun l6 hl7 => ?_
        conv => arg 1; cbv
        refine sat_true (ieq_ok hΩ _) ?_
        conv => arg 1; cbv
        refine sat_true (fits_l hΩ (ro_Field hE) a0_l (by first | rfl | ((try clear h); subst_vars; rfl))) ?_
        conv => arg 1; cbv
        refine sat_true (len_ok hΩ (ro_Field hE) ([] : List Field) (by first | rfl | ((try clear h); subst_vars; rfl) | ((try clear h); subst_vars; simp only [ln_set]) | assumption | ((try clear h); subst_vars; assumption)) (by first | rfl | ((try clear h); subst_vars; rfl) | ((try clear h); subst_vars; simp only [ln_set]) | assumption | ((try clear h); subst_vars; assumption))) ?_
        conv => arg 1; cbv
        replace h := bif_cases h
        rcases h with ⟨hb8, h⟩ | ⟨hb8, h⟩
        · refine sat_brt (len_zero hΩ (ro_Field hE) (l := a0_l) hb8 (by first | rfl | ((try clear h); subst_vars; rfl))) ?_
          conv => arg 1; cbv
          obtain rfl := Option.some.inj h
          subst_vars
          first | exact hk | (simp only [ln_set] at hk ⊢; exact hk)
        · refine sat_brf (len_zero hΩ (ro_Field hE) (l := a0_l) hb8 (by first | rfl | ((try clear h); subst_vars; rfl))) ?_
          conv => arg 1; cbv
          refine sat_cat hΩ (ro_Field hE) ([] : List Field) a0_l (by first | rfl | ((try clear h); subst_vars; rfl)) (by first | rfl | ((try clear h); subst_vars; rfl)) fun l9 hl10 n11 hn12 => ?_
          conv => arg 1; cbv
          replace h := bif_some h
          obtain ⟨hb13, h⟩ := h
          refine sat_true (by first | exact hb13 | ((try clear h); subst_vars; first | exact hb13 | rfl)) ?_
          conv => arg 1; cbv
          obtain rfl := Option.some.inj h
          subst_vars
          first | exact hk | (simp only [ln_set] at hk ⊢; exact hk)
      · clear hq15
        obtain ⟨l14, hqq⟩ : ∃ x, x = q := ⟨_, rfl⟩
        subst hqq
        try dsimp only at h
        obtain ⟨ln_l14, hln_l14⟩ : ∃ n, ln l14 = n := ⟨_, rfl⟩
        simp only [hln_l14]
        conv => arg 1; cbv
        refine sat_addfar' hΩ hH fun kk st2 hk2 hs2 => ?_
        conv => arg 1; cbv
        obtain rfl := Option.some.inj h
        subst_vars
        exact sat_pure rfl
  · refine sat_brf (len_zero hΩ (ro_Field hE) (l := a0_l) hb3 (by first | rfl | ((try clear h); subst_vars; rfl))) ?_
    conv => arg 1; cbv
    refine sat_in hΩ ?_
    conv => arg 1; cbv
    obtain ⟨q, hq27, hz⟩ := Option.bind_eq_some_iff.1 h
    clear h
    have h := hz
    clear hz
    refine sat_grp hΩ ((fun (q : (List Field)) => (match q with | l26 => ([(0, PV.d (.sl (E.L_Field a0_l) (E.X_Field a0_x))), (2, PV.row 0 1 (ln l26))], ([X.Obj.row 49 9 (E.L_Field l1) true none, X.Obj.row 49 9 (E.L_Field l26) true none] : List X.Obj) :: st))) q) (fun k hk => ?_) ?_
    · clear h
      have h := hq27
      clear hq27
      conv => arg 1; cbv
      refine sat_nil hΩ (ro_Field hE) fun l18 hl19 => ?_
      conv => arg 1; cbv
      refine sat_true (ieq_ok hΩ _) ?_
      conv => arg 1; cbv
      refine sat_true (fits_l hΩ (ro_Field hE) a0_l (by first | rfl | ((try clear h); subst_vars; rfl))) ?_
      conv => arg 1; cbv
      refine sat_true (len_ok hΩ (ro_Field hE) ([] : List Field) (by first | rfl | ((try clear h); subst_vars; rfl) | ((try clear h); subst_vars; simp only [ln_set]) | assumption | ((try clear h); subst_vars; assumption)) (by first | rfl | ((try clear h); subst_vars; rfl) | ((try clear h); subst_vars; simp only [ln_set]) | assumption | ((try clear h); subst_vars; assumption))) ?_
      conv => arg 1; cbv
      replace h := bif_cases h
      rcases h with ⟨hb20, h⟩ | ⟨hb20, h⟩
      · refine sat_brt (len_zero hΩ (ro_Field hE) (l := a0_l) hb20 (by first | rfl | ((try clear h); subst_vars; rfl))) ?_
        conv => arg 1; cbv
        obtain rfl := Option.some.inj h
        subst_vars
        first | exact hk | (simp only [ln_set] at hk ⊢; exact hk)
      · refine sat_brf (len_zero hΩ (ro_Field hE) (l := a0_l) hb20 (by first | rfl | ((try clear h); subst_vars; rfl))) ?_
        conv => arg 1; cbv
        refine sat_cat hΩ (ro_Field hE) ([] : List Field) a0_l (by first | rfl | ((try clear h); subst_vars; rfl)) (by first | rfl | ((try clear h); subst_vars; rfl)) fun l21 hl22 n23 hn24 => ?_
        conv => arg 1; cbv
        replace h := bif_some h
        obtain ⟨hb25, h⟩ := h
        refine sat_true (by first | exact hb25 | ((try clear h); subst_vars; first | exact hb25 | rfl)) ?_
        conv => arg 1; cbv
        obtain rfl := Option.some.inj h
        subst_vars
        first | exact hk | (simp only [ln_set] at hk ⊢; exact hk)
    · clear hq27
      obtain ⟨l26, hqq⟩ : ∃ x, x = q := ⟨_, rfl⟩
      subst hqq
      try dsimp only at h
      obtain ⟨ln_l26, hln_l26⟩ : ∃ n, ln l26 = n := ⟨_, rfl⟩
      simp only [hln_l26]
      conv => arg 1; cbv
      refine sat_addfar' hΩ hH fun kk st2 hk2 hs2 => ?_
      conv => arg 1; cbv
      obtain rfl := Option.some.inj h
      subst_vars
      exact sat_pure rfl
set_option maxHeartbeats 4000000 in
theorem ok69 {Ω : Om} {E : Enc} (hΩ : real (call S) = Ω) (hE : theEnc = E) {fu : Nat} {a0 : Sl Value} {r : (List Value)} (h : P69 fu a0 = some r) {args : List PV} (ha : [PV.d (.sl (E.L_Value a0.l) (E.X_Value a0.x))] = args) {st : St} (hH : X.hasL st 0 = true) {n : Int} (hn : ln r = n) :
    Sat (Ω.cf 69 args st) (fun q => q = (PV.row 0 (X.numO st 0) n, X.addO st 0 (X.Obj.row 27 8 (E.L_Value r) true none))) := by
  subst ha
  rcases a0 with ⟨a0_l, a0_x⟩
  rw [cf_body hΩ (f := 69) (fn := Try.f69) (x := c69) rfl rfl c69_ok rfl rfl rfl]
  unfold P69 at h
  try dsimp only at h
  conv => arg 1; cbv
  refine sat_nil hΩ (ro_Value hE) fun l1 hl2 => ?_
  conv => arg 1; cbv
  refine sat_in hΩ ?_
  conv => arg 1; cbv
  replace h := bif_cases h
  rcases h with ⟨hb3, h⟩ | ⟨hb3, h⟩
  · refine sat_brt (len_zero hΩ (ro_Value hE) (l := a0_l) hb3 (by first | rfl | ((try clear h); subst_vars; rfl))) ?_
    conv => arg 1; cbv
    obtain ⟨ha16, hb17⟩ := agree_some h
    clear h
    refine sat_both hΩ ?_ ?_
    · clear hb17
      have h := ha16
      clear ha16
      conv => arg 1; cbv
      refine sat_nil hΩ (ro_Value hE) fun l4 hl5 => ?_
      conv => arg 1; cbv
      refine sat_addfar' hΩ hH fun kk st2 hk2 hs2 => ?_
      conv => arg 1; cbv
      obtain rfl := Option.some.inj h
      subst_vars
      exact sat_pure rfl
    · clear ha16
      have h := hb17
      clear hb17
      conv => arg 1; cbv
      obtain ⟨q, hq15, hz⟩ := Option.bind_eq_some_iff.1 h
      clear h
      have h := hz
      clear hz
      refine sat_grp hΩ ((fun (q : (List Value)) => (match q with | l14 => ([(0, PV.d (.sl (E.L_Value a0_l) (E.X_Value a0_x))), (2, PV.row 0 1 (ln l14))], ([X.Obj.row 27 8 (E.L_Value l1) true none, X.Obj.row 27 8 (E.L_Value l14) true none] : List X.Obj) :: st))) q) (fun k hk => ?_) ?_
      · clear h
        have h := hq15
        clear hq15
        conv => arg 1; cbv
        refine sat_nil hΩ (ro_Value hE) fun l6 hl7 => ?_
        conv => arg 1; cbv
        refine sat_true (ieq_ok hΩ _) ?_
        conv => arg 1; cbv
        refine sat_true (fits_l hΩ (ro_Value hE) a0_l (by first | rfl | ((try clear h); subst_vars; rfl))) ?_
        conv => arg 1; cbv
        refine sat_true (len_ok hΩ (ro_Value hE) ([] : List Value) (by first | rfl | ((try clear h); subst_vars; rfl) | ((try clear h); subst_vars; simp only [ln_set]) | assumption | ((try clear h); subst_vars; assumption)) (by first | rfl | ((try clear h); subst_vars; rfl) | ((try clear h); subst_vars; simp only [ln_set]) | assumption | ((try clear h); subst_vars; assumption))) ?_
        conv => arg 1; cbv
        replace h := bif_cases h
        rcases h with ⟨hb8, h⟩ | ⟨hb8, h⟩
        · refine sat_brt (len_zero hΩ (ro_Value hE) (l := a0_l) hb8 (by first | rfl | ((try clear h); subst_vars; rfl))) ?_
          conv => arg 1; cbv
          obtain rfl := Option.some.inj h
          subst_vars
          first | exact hk | (simp only [ln_set] at hk ⊢; exact hk)
        · refine sat_brf (len_zero hΩ (ro_Value hE) (l := a0_l) hb8 (by first | rfl | ((try clear h); subst_vars; rfl))) ?_
          conv => arg 1; cbv
          refine sat_cat hΩ (ro_Value hE) ([] : List Value) a0_l (by first | rfl | ((try clear h); subst_vars; rfl)) (by first | rfl | ((try clear h); subst_vars; rfl)) fun l9 hl10 n11 hn12 => ?_
          conv => arg 1; cbv
          replace h := bif_some h
          obtain ⟨hb13, h⟩ := h
          refine sat_true (by first | exact hb13 | ((try clear h); subst_vars; first | exact hb13 | rfl)) ?_
          conv => arg 1; cbv
          obtain rfl := Option.some.inj h
          subst_vars
          first | exact hk | (simp only [ln_set] at hk ⊢; exact hk)
      · clear hq15
        obtain ⟨l14, hqq⟩ : ∃ x, x = q := ⟨_, rfl⟩
        subst hqq
        try dsimp only at h
        obtain ⟨ln_l14, hln_l14⟩ : ∃ n, ln l14 = n := ⟨_, rfl⟩
        simp only [hln_l14]
        conv => arg 1; cbv
        refine sat_addfar' hΩ hH fun kk st2 hk2 hs2 => ?_
        conv => arg 1; cbv
        obtain rfl := Option.some.inj h
        subst_vars
        exact sat_pure rfl
  · refine sat_brf (len_zero hΩ (ro_Value hE) (l := a0_l) hb3 (by first | rfl | ((try clear h); subst_vars; rfl))) ?_
    conv => arg 1; cbv
    refine sat_in hΩ ?_
    conv => arg 1; cbv
    obtain ⟨q, hq27, hz⟩ := Option.bind_eq_some_iff.1 h
    clear h
    have h := hz
    clear hz
    refine sat_grp hΩ ((fun (q : (List Value)) => (match q with | l26 => ([(0, PV.d (.sl (E.L_Value a0_l) (E.X_Value a0_x))), (2, PV.row 0 1 (ln l26))], ([X.Obj.row 27 8 (E.L_Value l1) true none, X.Obj.row 27 8 (E.L_Value l26) true none] : List X.Obj) :: st))) q) (fun k hk => ?_) ?_
    · clear h
      have h := hq27
      clear hq27
      conv => arg 1; cbv
      refine sat_nil hΩ (ro_Value hE) fun l18 hl19 => ?_
      conv => arg 1; cbv
      refine sat_true (ieq_ok hΩ _) ?_
      conv => arg 1; cbv
      refine sat_true (fits_l hΩ (ro_Value hE) a0_l (by first | rfl | ((try clear h); subst_vars; rfl))) ?_
      conv => arg 1; cbv
      refine sat_true (len_ok hΩ (ro_Value hE) ([] : List Value) (by first | rfl | ((try clear h); subst_vars; rfl) | ((try clear h); subst_vars; simp only [ln_set]) | assumption | ((try clear h); subst_vars; assumption)) (by first | rfl | ((try clear h); subst_vars; rfl) | ((try clear h); subst_vars; simp only [ln_set]) | assumption | ((try clear h); subst_vars; assumption))) ?_
      conv => arg 1; cbv
      replace h := bif_cases h
      rcases h with ⟨hb20, h⟩ | ⟨hb20, h⟩
      · refine sat_brt (len_zero hΩ (ro_Value hE) (l := a0_l) hb20 (by first | rfl | ((try clear h); subst_vars; rfl))) ?_
        conv => arg 1; cbv
        obtain rfl := Option.some.inj h
        subst_vars
        first | exact hk | (simp only [ln_set] at hk ⊢; exact hk)
      · refine sat_brf (len_zero hΩ (ro_Value hE) (l := a0_l) hb20 (by first | rfl | ((try clear h); subst_vars; rfl))) ?_
        conv => arg 1; cbv
        refine sat_cat hΩ (ro_Value hE) ([] : List Value) a0_l (by first | rfl | ((try clear h); subst_vars; rfl)) (by first | rfl | ((try clear h); subst_vars; rfl)) fun l21 hl22 n23 hn24 => ?_
        conv => arg 1; cbv
        replace h := bif_some h
        obtain ⟨hb25, h⟩ := h
        refine sat_true (by first | exact hb25 | ((try clear h); subst_vars; first | exact hb25 | rfl)) ?_
        conv => arg 1; cbv
        obtain rfl := Option.some.inj h
        subst_vars
        first | exact hk | (simp only [ln_set] at hk ⊢; exact hk)
    · clear hq27
      obtain ⟨l26, hqq⟩ : ∃ x, x = q := ⟨_, rfl⟩
      subst hqq
      try dsimp only at h
      obtain ⟨ln_l26, hln_l26⟩ : ∃ n, ln l26 = n := ⟨_, rfl⟩
      simp only [hln_l26]
      conv => arg 1; cbv
      refine sat_addfar' hΩ hH fun kk st2 hk2 hs2 => ?_
      conv => arg 1; cbv
      obtain rfl := Option.some.inj h
      subst_vars
      exact sat_pure rfl
set_option maxHeartbeats 4000000 in
theorem ok49 {Ω : Om} {E : Enc} (hΩ : real (call S) = Ω) (hE : theEnc = E) {fu : Nat} {a0 : List Field} {tz : Nat} {tn : Int} {tcp : Option Int} {r : (List Field)} (h : P49 fu a0 = some r) {args : List PV} (ha : [PV.row 0 tz tn] = args) {st0 st : St} (ht0 : ln a0 = tn) (ht1 : X.look st0 0 tz = some (X.Obj.row 49 9 (E.L_Field a0) true tcp)) (ht2 : X.setO st0 0 tz X.Obj.void = st) (hH : X.hasL st 0 = true) {n : Int} (hn : ln r = n) :
    Sat (Ω.cf 49 args st0) (fun q => q = (PV.row 0 (X.numO st 0) n, X.addO st 0 (X.Obj.row 49 9 (E.L_Field r) true none))) := by
  subst ha
  rw [cf_body hΩ (f := 49) (fn := Try.f49) (x := c49) rfl rfl c49_ok rfl rfl rfl]
  unfold P49 at h
  try dsimp only at h
  conv => arg 1; cbv
  refine sat_rowfar hΩ ht1 ?_
  conv => arg 1; cbv
  refine sat_true (len_ok hΩ (ro_Field hE) a0 rfl ht0) ?_
  conv => arg 1; cbv
  refine sat_setfar hΩ ht2 ?_
  conv => arg 1; cbv
  refine sat_nil hΩ (ro_Field hE) fun l1 hl2 => ?_
  conv => arg 1; cbv
  refine sat_true (len_ok hΩ (ro_Field hE) a0 (by first | rfl | ((try clear h); subst_vars; rfl) | ((try clear h); subst_vars; simp only [ln_set]) | assumption | ((try clear h); subst_vars; assumption)) (by first | rfl | ((try clear h); subst_vars; rfl) | ((try clear h); subst_vars; simp only [ln_set]) | assumption | ((try clear h); subst_vars; assumption))) ?_
  conv => arg 1; cbv
  replace h := bif_some h
  obtain ⟨hb3, h⟩ := h
  refine sat_true (by first | exact hb3 | ((try clear h); subst_vars; first | exact hb3 | rfl)) ?_
  conv => arg 1; cbv
  replace h := bif_some h
  obtain ⟨hb4, h⟩ := h
  refine sat_true (by first | exact hb4 | ((try clear h); subst_vars; first | exact hb4 | rfl)) ?_
  conv => arg 1; cbv
  replace h := bif_some h
  obtain ⟨hb5, h⟩ := h
  refine sat_true (by first | exact hb5 | ((try clear h); subst_vars; first | exact hb5 | rfl)) ?_
  conv => arg 1; cbv
  refine sat_cut hΩ (ro_Field hE) a0 0 (ln a0) (by first | rfl | ((try clear h); subst_vars; rfl)) (by first | rfl | ((try clear h); subst_vars; rfl)) (by first | rfl | ((try clear h); subst_vars; rfl)) fun l6 hl7 => ?_
  conv => arg 1; cbv
  obtain ⟨n8, hn9⟩ : ∃ n, ln (cut a0 0 (ln a0)) = n := ⟨_, rfl⟩
  rw [show tn = n8 from by (try clear h); subst_vars; first | exact ln_cut0 (by assumption) (by assumption) | exact ln_cut0' (by assumption) (by assumption) (by assumption)]
  refine sat_addfar' hΩ hH fun kk st2 hk2 hs2 => ?_
  conv => arg 1; cbv
  obtain rfl := Option.some.inj h
  subst_vars
  exact sat_pure rfl
set_option maxHeartbeats 4000000 in
theorem ok70 {Ω : Om} {E : Enc} (hΩ : real (call S) = Ω) (hE : theEnc = E) {fu : Nat} {a0 : Sl Value} {r : (Sl Value)} (h : P70 fu a0 = some r) {args : List PV} (ha : [PV.d (.sl (E.L_Value a0.l) (E.X_Value a0.x))] = args) (st : St) :
    Sat (Ω.cf 70 args st) (fun q => q = (PV.d (.sl (E.L_Value r.l) (E.X_Value r.x)), st)) := by
  subst ha
  rcases a0 with ⟨a0_l, a0_x⟩
  rw [cf_body hΩ (f := 70) (fn := Try.f70) (x := c70) rfl rfl c70_ok rfl rfl rfl]
  unfold P70 at h
  try dsimp only at h
  conv => arg 1; cbv
  refine sat_len hΩ (ro_Value hE) a0_l (by first | rfl | ((try clear h); subst_vars; rfl)) fun n1 hn2 => ?_
  conv => arg 1; cbv
  refine sat_len hΩ (ro_Value hE) a0_l (by first | rfl | ((try clear h); subst_vars; rfl)) fun n3 hn4 => ?_
  conv => arg 1; cbv
  refine sat_true (fits_x hΩ (ro_Value hE) a0_l a0_x (by first | rfl | ((try clear h); subst_vars; rfl)) (by first | rfl | ((try clear h); subst_vars; rfl))) ?_
  conv => arg 1; cbv
  refine sat_len hΩ (ro_Value hE) a0_l (by first | rfl | ((try clear h); subst_vars; rfl)) fun n5 hn6 => ?_
  conv => arg 1; cbv
  replace h := bif_some h
  obtain ⟨hb7, h⟩ := h
  refine sat_true (by first | exact hb7 | ((try clear h); subst_vars; first | exact hb7 | rfl)) ?_
  conv => arg 1; cbv
  replace h := bif_some h
  obtain ⟨hb8, h⟩ := h
  refine sat_true (by first | exact hb8 | ((try clear h); subst_vars; first | exact hb8 | rfl)) ?_
  conv => arg 1; cbv
  replace h := bif_some h
  obtain ⟨hb9, h⟩ := h
  refine sat_true (by first | exact hb9 | ((try clear h); subst_vars; first | exact hb9 | rfl)) ?_
  conv => arg 1; cbv
  replace h := bif_some h
  obtain ⟨hb10, h⟩ := h
  refine sat_true (by first | exact hb10 | ((try clear h); subst_vars; first | exact hb10 | rfl)) ?_
  conv => arg 1; cbv
  refine sat_cut hΩ (ro_Value hE) a0_l 0 (ln a0_l) (by first | rfl | ((try clear h); subst_vars; rfl)) (by first | rfl | ((try clear h); subst_vars; rfl)) (by first | rfl | ((try clear h); subst_vars; rfl)) fun l11 hl12 => ?_
  conv => arg 1; cbv
  refine sat_cut hΩ (ro_Value hE) a0_l (ln a0_l) (ln a0_l) (by first | rfl | ((try clear h); subst_vars; rfl)) (by first | rfl | ((try clear h); subst_vars; rfl)) (by first | rfl | ((try clear h); subst_vars; rfl)) fun l13 hl14 => ?_
  conv => arg 1; cbv
  obtain rfl := Option.some.inj h
  subst_vars
  exact sat_pure rfl
set_option maxHeartbeats 4000000 in
theorem okb24 {Ω : Om} {E : Enc} (hΩ : real (call S) = Ω) (hE : theEnc = E) {fu : Nat} {p24 : (Sl Field) → Option ((List Field))} (hp24 : ∀ {a0 : Sl Field} {r : (List Field)}, p24 a0 = some r → ∀ {args : List PV}, [PV.d (.sl (E.L_Field a0.l) (E.X_Field a0.x))] = args → ∀ {st : St} (hH : X.hasL st 0 = true) {n : Int} (hn : ln r = n), Sat (Ω.cf 24 args st) (fun q => q = (PV.row 0 (X.numO st 0) n, X.addO st 0 (X.Obj.row 49 9 (E.L_Field r) true none)))) {p26 : Value → Option (Value)} (hp26 : ∀ {a0 : Value} {r : Value}, p26 a0 = some r → ∀ {args : List PV}, [pv_Value E a0] = args → ∀ (st : St), Sat (Ω.cf 26 args st) (fun q => q = (pv_Value E r, st))) {p50 : (Sl Value) → Option ((Sl Value))} (hp50 : ∀ {a0 : Sl Value} {r : (Sl Value)}, p50 a0 = some r → ∀ {args : List PV}, [PV.d (.sl (E.L_Value a0.l) (E.X_Value a0.x))] = args → ∀ (st : St), Sat (Ω.cf 50 args st) (fun q => q = (PV.d (.sl (E.L_Value r.l) (E.X_Value r.x)), st))) {a0 : Sl Field} {r : (List Field)} (h : Pb24 fu p24 p26 p50 a0 = some r) {args : List PV} (ha : [PV.d (.sl (E.L_Field a0.l) (E.X_Field a0.x))] = args) {st : St} (hH : X.hasL st 0 = true) {n : Int} (hn : ln r = n) :
    Sat (Ω.cf 24 args st) (fun q => q = (PV.row 0 (X.numO st 0) n, X.addO st 0 (X.Obj.row 49 9 (E.L_Field r) true none))) := by
  subst ha
  rcases a0 with ⟨a0_l, a0_x⟩
  rw [cf_body hΩ (f := 24) (fn := Try.f24) (x := c24) rfl rfl c24_ok rfl rfl rfl]
  unfold Pb24 at h
  try dsimp only at h
  conv => arg 1; cbv
  refine sat_nil hΩ (ro_Field hE) fun l1 hl2 => ?_
  conv => arg 1; cbv
  obtain ⟨r4, hx3, hz⟩ := Option.bind_eq_some_iff.1 h
  clear h
  have h := hz
  clear hz
  obtain ⟨n5, hn6⟩ : ∃ n, ln r4 = n := ⟨_, rfl⟩
  refine sat_call (ok48 hΩ hE (st := ([X.Obj.row 49 9 (E.L_Field l1) true none] : List X.Obj) :: st) hx3 (by (try clear h); subst_vars; rfl) rfl hn6) ?_
  conv => arg 1; cbv
  obtain ⟨q, hl19, hz⟩ := Option.bind_eq_some_iff.1 h
  clear h
  have h := hz
  clear hz
  refine sat_loop hΩ (fun (a : (List Field) × Int) => (match a with | (l7, i8) => ([(0, PV.d (.sl (E.L_Field a0_l) (E.X_Field a0_x))), (2, PV.row 0 0 0), (3, PV.row 0 1 (ln l7)), (8, PV.d (.int .i64 n5)), (9, PV.d (.int .i64 i8))], ([X.Obj.row 49 9 (E.L_Field l1) true none, X.Obj.row 49 9 (E.L_Field l7) true none] : List X.Obj) :: st))) (fun (q : ((List Field) × Int)) => (match q with | (o20, o21) => (.exit 0, [(0, PV.d (.sl (E.L_Field a0_l) (E.X_Field a0_x))), (2, PV.row 0 0 0), (3, PV.row 0 1 (ln o20)), (8, PV.d (.int .i64 n5)), (9, PV.d (.int .i64 o21))], ([X.Obj.row 49 9 (E.L_Field l1) true none, X.Obj.row 49 9 (E.L_Field o20) true none] : List X.Obj) :: st))) (r4, 0) hl19 (by first | rfl | ((try clear h); subst_vars; rfl) | ((try clear h); subst_vars; simp only [ln_set]) | assumption | ((try clear h); subst_vars; assumption)) ?_ ?_
  · clear h hl19
    rintro ⟨l7, i8⟩ q h
    unfold P24_s0 at h
    dsimp only at h
    obtain ⟨ln_l7, hln_l7⟩ : ∃ n, ln l7 = n := ⟨_, rfl⟩
    simp only [hln_l7]
    conv => arg 1; cbv
    refine sat_in hΩ ?_
    conv => arg 1; cbv
    replace h := bif_cases h
    rcases h with ⟨hb9, h⟩ | ⟨hb9, h⟩
    · refine sat_brt (by first | exact hb9 | ((try clear h); subst_vars; first | exact hb9 | rfl)) ?_
      conv => arg 1; cbv
      refine sat_true (len_ok hΩ (ro_Field hE) l7 (by first | rfl | ((try clear h); subst_vars; rfl) | ((try clear h); subst_vars; simp only [ln_set]) | assumption | ((try clear h); subst_vars; assumption)) (by first | rfl | ((try clear h); subst_vars; rfl) | ((try clear h); subst_vars; simp only [ln_set]) | assumption | ((try clear h); subst_vars; assumption))) ?_
      conv => arg 1; cbv
      obtain ⟨⟨x10_Name, ⟨x10_Value__Kind, x10_Value__N, x10_Value__S, ⟨x10_Value__L_l, x10_Value__L_x⟩, ⟨x10_Value__F_l, x10_Value__F_x⟩, x10_Value__Elem, x10_Value__Key, x10_Value__HasKey⟩⟩, hx11, hz⟩ := Option.bind_eq_some_iff.1 h
      clear h
      have h := hz
      clear hz
      try dsimp only at h
      refine sat_bind (nth_ok hΩ (ro_Field hE) hx11 (by first | rfl | ((try clear h); subst_vars; rfl)) (by first | rfl | ((try clear h); subst_vars; rfl))) ?_
      conv => arg 1; cbv
      refine sat_true (len_ok hΩ (ro_Field hE) l7 (by first | rfl | ((try clear h); subst_vars; rfl) | ((try clear h); subst_vars; simp only [ln_set]) | assumption | ((try clear h); subst_vars; assumption)) (by first | rfl | ((try clear h); subst_vars; rfl) | ((try clear h); subst_vars; simp only [ln_set]) | assumption | ((try clear h); subst_vars; assumption))) ?_
      conv => arg 1; cbv
      refine sat_bind (nth_ok hΩ (ro_Field hE) hx11 (by first | rfl | ((try clear h); subst_vars; rfl)) (by first | rfl | ((try clear h); subst_vars; rfl))) ?_
      conv => arg 1; cbv
      obtain ⟨⟨r12_Kind, r12_N, r12_S, ⟨r12_L_l, r12_L_x⟩, ⟨r12_F_l, r12_F_x⟩, r12_Elem, r12_Key, r12_HasKey⟩, hx13, hz⟩ := Option.bind_eq_some_iff.1 h
      clear h
      have h := hz
      clear hz
      try dsimp only at h
      refine sat_call (hp26 hx13 (by (try clear h); subst_vars; rfl) _) ?_
      conv => arg 1; cbv
      refine sat_true (len_ok hΩ (ro_Field hE) l7 (by first | rfl | ((try clear h); subst_vars; rfl) | ((try clear h); subst_vars; simp only [ln_set]) | assumption | ((try clear h); subst_vars; assumption)) (by first | rfl | ((try clear h); subst_vars; rfl) | ((try clear h); subst_vars; simp only [ln_set]) | assumption | ((try clear h); subst_vars; assumption))) ?_
      conv => arg 1; cbv
      obtain ⟨⟨x14_Name, ⟨x14_Value__Kind, x14_Value__N, x14_Value__S, ⟨x14_Value__L_l, x14_Value__L_x⟩, ⟨x14_Value__F_l, x14_Value__F_x⟩, x14_Value__Elem, x14_Value__Key, x14_Value__HasKey⟩⟩, hx15, hz⟩ := Option.bind_eq_some_iff.1 h
      clear h
      have h := hz
      clear hz
      try dsimp only at h
      refine sat_bind (nth_ok hΩ (ro_Field hE) hx15 (by first | rfl | ((try clear h); subst_vars; rfl)) (by first | rfl | ((try clear h); subst_vars; rfl))) ?_
      conv => arg 1; cbv
      refine sat_true (len_ok hΩ (ro_Field hE) l7 (by first | rfl | ((try clear h); subst_vars; rfl) | ((try clear h); subst_vars; simp only [ln_set]) | assumption | ((try clear h); subst_vars; assumption)) (by first | rfl | ((try clear h); subst_vars; rfl) | ((try clear h); subst_vars; simp only [ln_set]) | assumption | ((try clear h); subst_vars; assumption))) ?_
      conv => arg 1; cbv
      refine sat_bind (nth_ok hΩ (ro_Field hE) hx15 (by first | rfl | ((try clear h); subst_vars; rfl)) (by first | rfl | ((try clear h); subst_vars; rfl))) ?_
      conv => arg 1; cbv
      refine sat_set hΩ (ro_Field hE) l7 i8 (Field.mk x14_Name (Value.mk r12_Kind r12_N r12_S (Sl.mk r12_L_l r12_L_x) (Sl.mk r12_F_l r12_F_x) r12_Elem r12_Key r12_HasKey)) (by first | rfl | ((try clear h); subst_vars; rfl)) (by first | rfl | ((try clear h); subst_vars; rfl)) (by first | rfl | ((try clear h); subst_vars; rfl)) fun l16 hl17 => ?_
      conv => arg 1; cbv
      obtain rfl := Option.some.inj h
      subst_vars
      first | exact sat_pure ⟨rfl, rfl, rfl⟩ | (refine sat_pure ⟨rfl, ?_, ?_⟩ <;> first | rfl | (dsimp only; simp only [ln_set]; rfl))
    · refine sat_brf (by first | exact hb9 | ((try clear h); subst_vars; first | exact hb9 | rfl)) ?_
      conv => arg 1; cbv
      obtain rfl := Option.some.inj h
      subst_vars
      first | exact sat_pure (.inl ⟨⟨_, rfl⟩, rfl⟩) | (refine sat_pure (.inl ⟨⟨_, rfl⟩, ?_⟩); dsimp only; simp only [ln_set]; rfl)
  · clear hl19
    rcases q with ⟨o20, o21⟩
    dsimp only at h
    obtain ⟨ln_o20, hln_o20⟩ : ∃ n, ln o20 = n := ⟨_, rfl⟩
    simp only [hln_o20]
    conv => arg 1; cbv
    obtain ⟨r23, hx22, hz⟩ := Option.bind_eq_some_iff.1 h
    clear h
    have h := hz
    clear hz
    obtain ⟨n24, hn25⟩ : ∃ n, ln r23 = n := ⟨_, rfl⟩
    refine sat_call (ok49 hΩ hE (st0 := ([X.Obj.row 49 9 (E.L_Field l1) true none, X.Obj.row 49 9 (E.L_Field o20) true none] : List X.Obj) :: st) (st := ([X.Obj.row 49 9 (E.L_Field l1) true none, X.Obj.void] : List X.Obj) :: st) (tz := 1) (tn := ln_o20) (tcp := none) hx22 (by (try clear h); subst_vars; rfl) (by (try clear h); subst_vars; rfl) rfl rfl rfl hn25) ?_
    conv => arg 1; cbv
    refine sat_addfar' hΩ hH fun kk st2 hk2 hs2 => ?_
    conv => arg 1; cbv
    obtain rfl := Option.some.inj h
    subst_vars
    exact sat_pure rfl
set_option maxHeartbeats 4000000 in
theorem okb26 {Ω : Om} {E : Enc} (hΩ : real (call S) = Ω) (hE : theEnc = E) {fu : Nat} {p24 : (Sl Field) → Option ((List Field))} (hp24 : ∀ {a0 : Sl Field} {r : (List Field)}, p24 a0 = some r → ∀ {args : List PV}, [PV.d (.sl (E.L_Field a0.l) (E.X_Field a0.x))] = args → ∀ {st : St} (hH : X.hasL st 0 = true) {n : Int} (hn : ln r = n), Sat (Ω.cf 24 args st) (fun q => q = (PV.row 0 (X.numO st 0) n, X.addO st 0 (X.Obj.row 49 9 (E.L_Field r) true none)))) {p26 : Value → Option (Value)} (hp26 : ∀ {a0 : Value} {r : Value}, p26 a0 = some r → ∀ {args : List PV}, [pv_Value E a0] = args → ∀ (st : St), Sat (Ω.cf 26 args st) (fun q => q = (pv_Value E r, st))) {p50 : (Sl Value) → Option ((Sl Value))} (hp50 : ∀ {a0 : Sl Value} {r : (Sl Value)}, p50 a0 = some r → ∀ {args : List PV}, [PV.d (.sl (E.L_Value a0.l) (E.X_Value a0.x))] = args → ∀ (st : St), Sat (Ω.cf 50 args st) (fun q => q = (PV.d (.sl (E.L_Value r.l) (E.X_Value r.x)), st))) {a0 : Value} {r : Value} (h : Pb26 fu p24 p26 p50 a0 = some r) {args : List PV} (ha : [pv_Value E a0] = args) (st : St) :
    Sat (Ω.cf 26 args st) (fun q => q = (pv_Value E r, st)) := by
  subst ha
  rcases a0 with ⟨a0_Kind, a0_N, a0_S, ⟨a0_L_l, a0_L_x⟩, ⟨a0_F_l, a0_F_x⟩, a0_Elem, a0_Key, a0_HasKey⟩
  rw [cf_body hΩ (f := 26) (fn := Try.f26) (x := c26) rfl rfl c26_ok rfl rfl rfl]
  unfold Pb26 at h
  try dsimp only at h
  conv => arg 1; cbv
  obtain ⟨⟨r1_l, r1_x⟩, hx2, hz⟩ := Option.bind_eq_some_iff.1 h
  clear h
  have h := hz
  clear hz
  try dsimp only at h
  refine sat_call (hp50 hx2 (by (try clear h); subst_vars; rfl) _) ?_
  conv => arg 1; cbv
  refine sat_true (same_ok hΩ _) ?_
  conv => arg 1; cbv
  obtain ⟨r4, hx3, hz⟩ := Option.bind_eq_some_iff.1 h
  clear h
  have h := hz
  clear hz
  obtain ⟨n5, hn6⟩ : ∃ n, ln r4 = n := ⟨_, rfl⟩
  refine sat_call (hp24 (st := ([X.Obj.box 27 [.d (.int .u8 a0_Kind), .d (.int .i64 a0_N), .d (.str a0_S), .d (.sl (E.L_Value a0_L_l) (E.X_Value a0_L_x)), .d (.sl (E.L_Field a0_F_l) (E.X_Field a0_F_x)), .d (.int .u8 a0_Elem), .d (.str a0_Key), .d (.bool a0_HasKey)], X.Obj.box 27 [.d (.int .u8 0), .d (.int .i64 0), .d (.str ByteArray.empty), .d (.sl [] (some [])), .d (.sl [] (some [])), .d (.int .u8 0), .d (.str ByteArray.empty), .d (.bool false)]] : List X.Obj) :: st) hx3 (by (try clear h); subst_vars; rfl) rfl hn6) ?_
  conv => arg 1; cbv
  refine sat_true (len_ok hΩ (ro_Field hE) r4 (by first | rfl | ((try clear h); subst_vars; rfl) | ((try clear h); subst_vars; simp only [ln_set]) | assumption | ((try clear h); subst_vars; assumption)) (by first | rfl | ((try clear h); subst_vars; rfl) | ((try clear h); subst_vars; simp only [ln_set]) | assumption | ((try clear h); subst_vars; assumption))) ?_
  conv => arg 1; cbv
  refine sat_true (same_ok hΩ _) ?_
  conv => arg 1; cbv
  obtain rfl := Option.some.inj h
  subst_vars
  exact sat_pure rfl
set_option maxHeartbeats 4000000 in
theorem okb50 {Ω : Om} {E : Enc} (hΩ : real (call S) = Ω) (hE : theEnc = E) {fu : Nat} {p24 : (Sl Field) → Option ((List Field))} (hp24 : ∀ {a0 : Sl Field} {r : (List Field)}, p24 a0 = some r → ∀ {args : List PV}, [PV.d (.sl (E.L_Field a0.l) (E.X_Field a0.x))] = args → ∀ {st : St} (hH : X.hasL st 0 = true) {n : Int} (hn : ln r = n), Sat (Ω.cf 24 args st) (fun q => q = (PV.row 0 (X.numO st 0) n, X.addO st 0 (X.Obj.row 49 9 (E.L_Field r) true none)))) {p26 : Value → Option (Value)} (hp26 : ∀ {a0 : Value} {r : Value}, p26 a0 = some r → ∀ {args : List PV}, [pv_Value E a0] = args → ∀ (st : St), Sat (Ω.cf 26 args st) (fun q => q = (pv_Value E r, st))) {p50 : (Sl Value) → Option ((Sl Value))} (hp50 : ∀ {a0 : Sl Value} {r : (Sl Value)}, p50 a0 = some r → ∀ {args : List PV}, [PV.d (.sl (E.L_Value a0.l) (E.X_Value a0.x))] = args → ∀ (st : St), Sat (Ω.cf 50 args st) (fun q => q = (PV.d (.sl (E.L_Value r.l) (E.X_Value r.x)), st))) {a0 : Sl Value} {r : (Sl Value)} (h : Pb50 fu p24 p26 p50 a0 = some r) {args : List PV} (ha : [PV.d (.sl (E.L_Value a0.l) (E.X_Value a0.x))] = args) (st : St) :
    Sat (Ω.cf 50 args st) (fun q => q = (PV.d (.sl (E.L_Value r.l) (E.X_Value r.x)), st)) := by
  subst ha
  rcases a0 with ⟨a0_l, a0_x⟩
  rw [cf_body hΩ (f := 50) (fn := Try.f50) (x := c50) rfl rfl c50_ok rfl rfl rfl]
  unfold Pb50 at h
  try dsimp only at h
  conv => arg 1; cbv
  obtain ⟨r2, hx1, hz⟩ := Option.bind_eq_some_iff.1 h
  clear h
  have h := hz
  clear hz
  obtain ⟨n3, hn4⟩ : ∃ n, ln r2 = n := ⟨_, rfl⟩
  refine sat_call (ok69 hΩ hE (st := ([] : List X.Obj) :: st) hx1 (by (try clear h); subst_vars; rfl) rfl hn4) ?_
  conv => arg 1; cbv
  obtain ⟨q, hl17, hz⟩ := Option.bind_eq_some_iff.1 h
  clear h
  have h := hz
  clear hz
  refine sat_loop hΩ (fun (a : (List Value) × Int) => (match a with | (l5, i6) => ([(0, PV.d (.sl (E.L_Value a0_l) (E.X_Value a0_x))), (2, PV.d (.sl [] (some []))), (3, PV.row 0 0 (ln l5)), (8, PV.d (.int .i64 n3)), (9, PV.d (.int .i64 i6))], ([X.Obj.row 27 8 (E.L_Value l5) true none] : List X.Obj) :: st))) (fun (q : ((List Value) × Int)) => (match q with | (o18, o19) => (.exit 0, [(0, PV.d (.sl (E.L_Value a0_l) (E.X_Value a0_x))), (2, PV.d (.sl [] (some []))), (3, PV.row 0 0 (ln o18)), (8, PV.d (.int .i64 n3)), (9, PV.d (.int .i64 o19))], ([X.Obj.row 27 8 (E.L_Value o18) true none] : List X.Obj) :: st))) (r2, 0) hl17 (by first | rfl | ((try clear h); subst_vars; rfl) | ((try clear h); subst_vars; simp only [ln_set]) | assumption | ((try clear h); subst_vars; assumption)) ?_ ?_
  · clear h hl17
    rintro ⟨l5, i6⟩ q h
    unfold P50_s0 at h
    dsimp only at h
    obtain ⟨ln_l5, hln_l5⟩ : ∃ n, ln l5 = n := ⟨_, rfl⟩
    simp only [hln_l5]
    conv => arg 1; cbv
    refine sat_in hΩ ?_
    conv => arg 1; cbv
    replace h := bif_cases h
    rcases h with ⟨hb7, h⟩ | ⟨hb7, h⟩
    · refine sat_brt (by first | exact hb7 | ((try clear h); subst_vars; first | exact hb7 | rfl)) ?_
      conv => arg 1; cbv
      refine sat_true (len_ok hΩ (ro_Value hE) l5 (by first | rfl | ((try clear h); subst_vars; rfl) | ((try clear h); subst_vars; simp only [ln_set]) | assumption | ((try clear h); subst_vars; assumption)) (by first | rfl | ((try clear h); subst_vars; rfl) | ((try clear h); subst_vars; simp only [ln_set]) | assumption | ((try clear h); subst_vars; assumption))) ?_
      conv => arg 1; cbv
      obtain ⟨⟨x8_Kind, x8_N, x8_S, ⟨x8_L_l, x8_L_x⟩, ⟨x8_F_l, x8_F_x⟩, x8_Elem, x8_Key, x8_HasKey⟩, hx9, hz⟩ := Option.bind_eq_some_iff.1 h
      clear h
      have h := hz
      clear hz
      try dsimp only at h
      refine sat_bind (nth_ok hΩ (ro_Value hE) hx9 (by first | rfl | ((try clear h); subst_vars; rfl)) (by first | rfl | ((try clear h); subst_vars; rfl))) ?_
      conv => arg 1; cbv
      refine sat_true (len_ok hΩ (ro_Value hE) l5 (by first | rfl | ((try clear h); subst_vars; rfl) | ((try clear h); subst_vars; simp only [ln_set]) | assumption | ((try clear h); subst_vars; assumption)) (by first | rfl | ((try clear h); subst_vars; rfl) | ((try clear h); subst_vars; simp only [ln_set]) | assumption | ((try clear h); subst_vars; assumption))) ?_
      conv => arg 1; cbv
      refine sat_bind (nth_ok hΩ (ro_Value hE) hx9 (by first | rfl | ((try clear h); subst_vars; rfl)) (by first | rfl | ((try clear h); subst_vars; rfl))) ?_
      conv => arg 1; cbv
      obtain ⟨⟨r10_Kind, r10_N, r10_S, ⟨r10_L_l, r10_L_x⟩, ⟨r10_F_l, r10_F_x⟩, r10_Elem, r10_Key, r10_HasKey⟩, hx11, hz⟩ := Option.bind_eq_some_iff.1 h
      clear h
      have h := hz
      clear hz
      try dsimp only at h
      refine sat_call (hp26 hx11 (by (try clear h); subst_vars; rfl) _) ?_
      conv => arg 1; cbv
      refine sat_true (len_ok hΩ (ro_Value hE) l5 (by first | rfl | ((try clear h); subst_vars; rfl) | ((try clear h); subst_vars; simp only [ln_set]) | assumption | ((try clear h); subst_vars; assumption)) (by first | rfl | ((try clear h); subst_vars; rfl) | ((try clear h); subst_vars; simp only [ln_set]) | assumption | ((try clear h); subst_vars; assumption))) ?_
      conv => arg 1; cbv
      obtain ⟨⟨x12_Kind, x12_N, x12_S, ⟨x12_L_l, x12_L_x⟩, ⟨x12_F_l, x12_F_x⟩, x12_Elem, x12_Key, x12_HasKey⟩, hx13, hz⟩ := Option.bind_eq_some_iff.1 h
      clear h
      have h := hz
      clear hz
      try dsimp only at h
      refine sat_bind (nth_ok hΩ (ro_Value hE) hx13 (by first | rfl | ((try clear h); subst_vars; rfl)) (by first | rfl | ((try clear h); subst_vars; rfl))) ?_
      conv => arg 1; cbv
      refine sat_true (len_ok hΩ (ro_Value hE) l5 (by first | rfl | ((try clear h); subst_vars; rfl) | ((try clear h); subst_vars; simp only [ln_set]) | assumption | ((try clear h); subst_vars; assumption)) (by first | rfl | ((try clear h); subst_vars; rfl) | ((try clear h); subst_vars; simp only [ln_set]) | assumption | ((try clear h); subst_vars; assumption))) ?_
      conv => arg 1; cbv
      refine sat_bind (nth_ok hΩ (ro_Value hE) hx13 (by first | rfl | ((try clear h); subst_vars; rfl)) (by first | rfl | ((try clear h); subst_vars; rfl))) ?_
      conv => arg 1; cbv
      refine sat_set hΩ (ro_Value hE) l5 i6 (Value.mk r10_Kind r10_N r10_S (Sl.mk r10_L_l r10_L_x) (Sl.mk r10_F_l r10_F_x) r10_Elem r10_Key r10_HasKey) (by first | rfl | ((try clear h); subst_vars; rfl)) (by first | rfl | ((try clear h); subst_vars; rfl)) (by first | rfl | ((try clear h); subst_vars; rfl)) fun l14 hl15 => ?_
      conv => arg 1; cbv
      obtain rfl := Option.some.inj h
      subst_vars
      first | exact sat_pure ⟨rfl, rfl, rfl⟩ | (refine sat_pure ⟨rfl, ?_, ?_⟩ <;> first | rfl | (dsimp only; simp only [ln_set]; rfl))
    · refine sat_brf (by first | exact hb7 | ((try clear h); subst_vars; first | exact hb7 | rfl)) ?_
      conv => arg 1; cbv
      obtain rfl := Option.some.inj h
      subst_vars
      first | exact sat_pure (.inl ⟨⟨_, rfl⟩, rfl⟩) | (refine sat_pure (.inl ⟨⟨_, rfl⟩, ?_⟩); dsimp only; simp only [ln_set]; rfl)
  · clear hl17
    rcases q with ⟨o18, o19⟩
    dsimp only at h
    obtain ⟨ln_o18, hln_o18⟩ : ∃ n, ln o18 = n := ⟨_, rfl⟩
    simp only [hln_o18]
    conv => arg 1; cbv
    refine sat_true (len_ok hΩ (ro_Value hE) o18 (by first | rfl | ((try clear h); subst_vars; rfl) | ((try clear h); subst_vars; simp only [ln_set]) | assumption | ((try clear h); subst_vars; assumption)) (by first | rfl | ((try clear h); subst_vars; rfl) | ((try clear h); subst_vars; simp only [ln_set]) | assumption | ((try clear h); subst_vars; assumption))) ?_
    conv => arg 1; cbv
    obtain ⟨⟨r20_l, r20_x⟩, hx21, hz⟩ := Option.bind_eq_some_iff.1 h
    clear h
    have h := hz
    clear hz
    try dsimp only at h
    refine sat_call (ok70 hΩ hE hx21 (by (try clear h); subst_vars; rfl) _) ?_
    conv => arg 1; cbv
    obtain rfl := Option.some.inj h
    subst_vars
    exact sat_pure rfl
theorem okr24 {Ω : Om} {E : Enc} (hΩ : real (call S) = Ω) (hE : theEnc = E) : ∀ fu,
    (∀ {a0 : Sl Field} {r : (List Field)}, P24 fu a0 = some r → ∀ {args : List PV}, [PV.d (.sl (E.L_Field a0.l) (E.X_Field a0.x))] = args → ∀ {st : St} (hH : X.hasL st 0 = true) {n : Int} (hn : ln r = n), Sat (Ω.cf 24 args st) (fun q => q = (PV.row 0 (X.numO st 0) n, X.addO st 0 (X.Obj.row 49 9 (E.L_Field r) true none)))) ∧
    (∀ {a0 : Value} {r : Value}, P26 fu a0 = some r → ∀ {args : List PV}, [pv_Value E a0] = args → ∀ (st : St), Sat (Ω.cf 26 args st) (fun q => q = (pv_Value E r, st))) ∧
    (∀ {a0 : Sl Value} {r : (Sl Value)}, P50 fu a0 = some r → ∀ {args : List PV}, [PV.d (.sl (E.L_Value a0.l) (E.X_Value a0.x))] = args → ∀ (st : St), Sat (Ω.cf 50 args st) (fun q => q = (PV.d (.sl (E.L_Value r.l) (E.X_Value r.x)), st))) := by
  intro fu
  induction fu with
  | zero => exact ⟨(fun h => (by cases h)), (fun h => (by cases h)), (fun h => (by cases h))⟩
  | succ fu ih =>
    obtain ⟨i24, i26, i50⟩ := ih
    exact ⟨(@fun a0 r h args ha st hH n hn => okb24 (fu := fu) hΩ hE i24 i26 i50 h ha hH hn), (fun h => @fun args ha st => okb26 (fu := fu) hΩ hE i24 i26 i50 h ha st), (fun h => @fun args ha st => okb50 (fu := fu) hΩ hE i24 i26 i50 h ha st)⟩
theorem ok24 {Ω : Om} {E : Enc} (hΩ : real (call S) = Ω) (hE : theEnc = E) {fu : Nat} : ∀ {a0 : Sl Field} {r : (List Field)}, P24 fu a0 = some r → ∀ {args : List PV}, [PV.d (.sl (E.L_Field a0.l) (E.X_Field a0.x))] = args → ∀ {st : St} (hH : X.hasL st 0 = true) {n : Int} (hn : ln r = n), Sat (Ω.cf 24 args st) (fun q => q = (PV.row 0 (X.numO st 0) n, X.addO st 0 (X.Obj.row 49 9 (E.L_Field r) true none))) := (okr24 hΩ hE fu).1
theorem ok26 {Ω : Om} {E : Enc} (hΩ : real (call S) = Ω) (hE : theEnc = E) {fu : Nat} : ∀ {a0 : Value} {r : Value}, P26 fu a0 = some r → ∀ {args : List PV}, [pv_Value E a0] = args → ∀ (st : St), Sat (Ω.cf 26 args st) (fun q => q = (pv_Value E r, st)) := (okr24 hΩ hE fu).2.1
theorem ok50 {Ω : Om} {E : Enc} (hΩ : real (call S) = Ω) (hE : theEnc = E) {fu : Nat} : ∀ {a0 : Sl Value} {r : (Sl Value)}, P50 fu a0 = some r → ∀ {args : List PV}, [PV.d (.sl (E.L_Value a0.l) (E.X_Value a0.x))] = args → ∀ (st : St), Sat (Ω.cf 50 args st) (fun q => q = (PV.d (.sl (E.L_Value r.l) (E.X_Value r.x)), st)) := (okr24 hΩ hE fu).2.2
set_option maxHeartbeats 4000000 in
theorem ok25x1 {Ω : Om} {E : Enc} (hΩ : real (call S) = Ω) (hE : theEnc = E) {fu : Nat} {a0 : Field} {a1 : ByteArray} {r : Bool} (h : P25x1 fu a0 a1 = some r) {args : List PV} (ha : [pv_Field E a0, PV.eptr [.str a1]] = args) (st : St) :
    Sat (Ω.cf 25 args st) (fun q => q = (PV.d (.bool r), st)) := by
  subst ha
  rcases a0 with ⟨a0_Name, ⟨a0_Value__Kind, a0_Value__N, a0_Value__S, ⟨a0_Value__L_l, a0_Value__L_x⟩, ⟨a0_Value__F_l, a0_Value__F_x⟩, a0_Value__Elem, a0_Value__Key, a0_Value__HasKey⟩⟩
  rw [cf_body hΩ (f := 25) (fn := Try.f25) (x := c25) rfl rfl c25_ok rfl rfl rfl]
  unfold P25x1 at h
  try dsimp only at h
  conv => arg 1; cbv
  obtain rfl := Option.some.inj h
  subst_vars
  exact sat_pure rfl
set_option maxHeartbeats 4000000 in
theorem ok47x1 {Ω : Om} {E : Enc} (hΩ : real (call S) = Ω) (hE : theEnc = E) {fu : Nat} {d0 : ByteArray} {b0 c0 : List Field} {rn0 : Int} {S : (List Field) → St} {lz0 iz0 : Nat} (e0 : b0 = c0) (hrn0 : ln b0 = rn0) (hg0 : ∀ s, X.look (S s) lz0 iz0 = some (X.Obj.row 49 9 (E.L_Field s) true none)) (hu0 : ∀ s x, X.setO (S s) lz0 iz0 (X.Obj.row 49 9 (E.L_Field x) true none) = S x) {r : Int} (h : P47x1 fu d0 b0 = some r) {args : List PV} (ha : [PV.row lz0 iz0 rn0, PV.fn 25 [.eptr [.str d0]]] = args) {st : St} (hst : S c0 = st) :
    Sat (Ω.cf 47 args st) (fun q => q = (PV.d (.int .i64 r), S c0)) := by
  subst ha
  subst hst
  subst e0
  rw [cf_body hΩ (f := 47) (fn := Try.f47) (x := c47) rfl rfl c47_ok rfl rfl rfl]
  unfold P47x1 at h
  try dsimp only at h
  conv => arg 1; cbv
  obtain ⟨q, hl9, hz⟩ := Option.bind_eq_some_iff.1 h
  clear h
  have h := hz
  clear hz
  refine sat_loop hΩ (fun (a : Int × Int) => (match a with | (i1, i2) => ([(0, PV.row (lz0+1) iz0 rn0), (1, PV.fn 25 [.eptr [.str d0]]), (4, PV.d (.int .i64 i1)), (7, PV.d (.int .i64 rn0)), (8, PV.d (.int .i64 i2))], ([] : List X.Obj) :: S b0))) (fun (q : (Int × Int) ⊕ (Int × Int)) => (match q with | .inl (o10, o11) => (.exit 0, [(0, PV.row (lz0+1) iz0 rn0), (1, PV.fn 25 [.eptr [.str d0]]), (4, PV.d (.int .i64 o10)), (7, PV.d (.int .i64 rn0)), (8, PV.d (.int .i64 o11))], ([] : List X.Obj) :: S b0) | .inr (o12, o13) => (.ret, [(0, PV.row (lz0+1) iz0 rn0), (1, PV.fn 25 [.eptr [.str d0]]), (4, PV.d (.int .i64 o12)), (7, PV.d (.int .i64 rn0)), (8, PV.d (.int .i64 o13))], ([] : List X.Obj) :: S b0))) (0, 0) hl9 (by first | rfl | ((try clear h); subst_vars; rfl) | ((try clear h); subst_vars; simp only [ln_set]) | assumption | ((try clear h); subst_vars; assumption)) ?_ ?_
  · clear h hl9
    rintro ⟨i1, i2⟩ q h
    unfold P47x1_s0 at h
    dsimp only at h
    conv => arg 1; cbv
    refine sat_in hΩ ?_
    conv => arg 1; cbv
    replace h := bif_cases h
    rcases h with ⟨hb3, h⟩ | ⟨hb3, h⟩
    · refine sat_brt (by first | exact hb3 | ((try clear h); subst_vars; first | exact hb3 | rfl)) ?_
      conv => arg 1; cbv
      refine sat_rowfar hΩ (hg0 _) ?_
      conv => arg 1; cbv
      refine sat_true (len_ok hΩ (ro_Field hE) b0 (by first | rfl | ((try clear h); subst_vars; rfl) | ((try clear h); subst_vars; simp only [ln_set]) | assumption | ((try clear h); subst_vars; assumption)) (by first | rfl | ((try clear h); subst_vars; rfl) | ((try clear h); subst_vars; simp only [ln_set]) | assumption | ((try clear h); subst_vars; assumption))) ?_
      conv => arg 1; cbv
      obtain ⟨⟨x4_Name, ⟨x4_Value__Kind, x4_Value__N, x4_Value__S, ⟨x4_Value__L_l, x4_Value__L_x⟩, ⟨x4_Value__F_l, x4_Value__F_x⟩, x4_Value__Elem, x4_Value__Key, x4_Value__HasKey⟩⟩, hx5, hz⟩ := Option.bind_eq_some_iff.1 h
      clear h
      have h := hz
      clear hz
      try dsimp only at h
      refine sat_bind (nth_ok hΩ (ro_Field hE) hx5 (by first | rfl | ((try clear h); subst_vars; rfl)) (by first | rfl | ((try clear h); subst_vars; rfl))) ?_
      conv => arg 1; cbv
      refine sat_rowfar hΩ (hg0 _) ?_
      conv => arg 1; cbv
      refine sat_true (len_ok hΩ (ro_Field hE) b0 (by first | rfl | ((try clear h); subst_vars; rfl) | ((try clear h); subst_vars; simp only [ln_set]) | assumption | ((try clear h); subst_vars; assumption)) (by first | rfl | ((try clear h); subst_vars; rfl) | ((try clear h); subst_vars; simp only [ln_set]) | assumption | ((try clear h); subst_vars; assumption))) ?_
      conv => arg 1; cbv
      refine sat_bind (nth_ok hΩ (ro_Field hE) hx5 (by first | rfl | ((try clear h); subst_vars; rfl)) (by first | rfl | ((try clear h); subst_vars; rfl))) ?_
      conv => arg 1; cbv
      obtain ⟨r6, hx7, hz⟩ := Option.bind_eq_some_iff.1 h
      clear h
      have h := hz
      clear hz
      refine sat_call (ok25x1 hΩ hE hx7 (by (try clear h); subst_vars; rfl) _) ?_
      conv => arg 1; cbv
      refine sat_in hΩ ?_
      conv => arg 1; cbv
      replace h := bif_cases h
      rcases h with ⟨hb8, h⟩ | ⟨hb8, h⟩
      · refine sat_brt (by first | exact hb8 | ((try clear h); subst_vars; first | exact hb8 | rfl)) ?_
        conv => arg 1; cbv
        obtain rfl := Option.some.inj h
        subst_vars
        first | exact sat_pure (.inr ⟨rfl, rfl⟩) | (refine sat_pure (.inr ⟨rfl, ?_⟩); dsimp only; simp only [ln_set]; rfl)
      · refine sat_brf (by first | exact hb8 | ((try clear h); subst_vars; first | exact hb8 | rfl)) ?_
        conv => arg 1; cbv
        obtain rfl := Option.some.inj h
        subst_vars
        first | exact sat_pure ⟨rfl, rfl, rfl⟩ | (refine sat_pure ⟨rfl, ?_, ?_⟩ <;> first | rfl | (dsimp only; simp only [ln_set]; rfl))
    · refine sat_brf (by first | exact hb3 | ((try clear h); subst_vars; first | exact hb3 | rfl)) ?_
      conv => arg 1; cbv
      obtain rfl := Option.some.inj h
      subst_vars
      first | exact sat_pure (.inl ⟨⟨_, rfl⟩, rfl⟩) | (refine sat_pure (.inl ⟨⟨_, rfl⟩, ?_⟩); dsimp only; simp only [ln_set]; rfl)
  · clear hl9
    rcases q with ⟨o10, o11⟩ | ⟨o12, o13⟩
    · dsimp only at h
      conv => arg 1; cbv
      obtain rfl := Option.some.inj h
      subst_vars
      exact sat_pure rfl
    · dsimp only at h
      conv => arg 1; cbv
      obtain rfl := Option.some.inj h
      subst_vars
      exact sat_pure rfl
set_option maxHeartbeats 4000000 in
theorem ok23x1 {Ω : Om} {E : Enc} (hΩ : real (call S) = Ω) (hE : theEnc = E) {fu : Nat} {a0 : List Field} {d0 : ByteArray} {tz : Nat} {tn : Int} {tcp : Option Int} {r : (List Field)} (h : P23x1 fu a0 d0 = some r) {args : List PV} (ha : [PV.row 0 tz tn, PV.fn 25 [.eptr [.str d0]]] = args) {st0 st : St} (ht0 : ln a0 = tn) (ht1 : X.look st0 0 tz = some (X.Obj.row 49 9 (E.L_Field a0) true tcp)) (ht2 : X.setO st0 0 tz X.Obj.void = st) (hH : X.hasL st 0 = true) {n : Int} (hn : ln r = n) :
    Sat (Ω.cf 23 args st0) (fun q => q = (PV.row 0 (X.numO st 0) n, X.addO st 0 (X.Obj.row 49 9 (E.L_Field r) true none))) := by
  subst ha
  rw [cf_body hΩ (f := 23) (fn := Try.f23) (x := c23) rfl rfl c23_ok rfl rfl rfl]
  unfold P23x1 at h
  try dsimp only at h
  conv => arg 1; cbv
  refine sat_rowfar hΩ ht1 ?_
  conv => arg 1; cbv
  refine sat_true (len_ok hΩ (ro_Field hE) a0 rfl ht0) ?_
  conv => arg 1; cbv
  refine sat_setfar hΩ ht2 ?_
  conv => arg 1; cbv
  refine sat_nil hΩ (ro_Field hE) fun l1 hl2 => ?_
  conv => arg 1; cbv
  obtain ⟨r4, hx3, hz⟩ := Option.bind_eq_some_iff.1 h
  clear h
  have h := hz
  clear hz
  refine sat_call (ok47x1 hΩ hE (S := (fun (s : (List Field)) => ([X.Obj.row 49 9 (E.L_Field s) true none, X.Obj.row 49 9 (E.L_Field l1) true none] : List X.Obj) :: st)) (lz0 := 0) (iz0 := 0) (c0 := a0) (rn0 := tn) (by (try clear h); subst_vars; rfl) (by first | rfl | ((try clear h); subst_vars; rfl) | ((try clear h); subst_vars; simp only [ln_set]) | assumption | ((try clear h); subst_vars; assumption)) (fun s => rfl) (fun s x => rfl) hx3 (by (try clear h); subst_vars; rfl) (by (try clear h); subst_vars; rfl)) ?_
  conv => arg 1; cbv
  refine sat_in hΩ ?_
  conv => arg 1; cbv
  replace h := bif_cases h
  rcases h with ⟨hb5, h⟩ | ⟨hb5, h⟩
  · refine sat_brt (by first | exact hb5 | ((try clear h); subst_vars; first | exact hb5 | rfl)) ?_
    conv => arg 1; cbv
    refine sat_addfar' hΩ hH fun kk st2 hk2 hs2 => ?_
    conv => arg 1; cbv
    obtain rfl := Option.some.inj h
    subst_vars
    exact sat_pure rfl
  · refine sat_brf (by first | exact hb5 | ((try clear h); subst_vars; first | exact hb5 | rfl)) ?_
    conv => arg 1; cbv
    obtain ⟨q, hl23, hz⟩ := Option.bind_eq_some_iff.1 h
    clear h
    have h := hz
    clear hz
    refine sat_loop hΩ (fun (a : (List Field) × Int × Int) => (match a with | (l6, i7, i8) => ([(0, PV.row 0 0 (ln l6)), (1, PV.fn 25 [.eptr [.str d0]]), (4, PV.row 0 1 0), (5, PV.d (.int .i64 i7)), (6, PV.d (.int .i64 i8))], ([X.Obj.row 49 9 (E.L_Field l6) true none, X.Obj.row 49 9 (E.L_Field l1) true none] : List X.Obj) :: st))) (fun (q : ((List Field) × Int × Int)) => (match q with | (o24, o25, o26) => (.exit 0, [(0, PV.row 0 0 (ln o24)), (1, PV.fn 25 [.eptr [.str d0]]), (4, PV.row 0 1 0), (5, PV.d (.int .i64 o25)), (6, PV.d (.int .i64 o26))], ([X.Obj.row 49 9 (E.L_Field o24) true none, X.Obj.row 49 9 (E.L_Field l1) true none] : List X.Obj) :: st))) (a0, r4, w64 (r4 + 1)) hl23 (by first | rfl | ((try clear h); subst_vars; rfl) | ((try clear h); subst_vars; simp only [ln_set]) | assumption | ((try clear h); subst_vars; assumption)) ?_ ?_
    · clear h hl23
      rintro ⟨l6, i7, i8⟩ q h
      unfold P23x1_s0 at h
      dsimp only at h
      obtain ⟨ln_l6, hln_l6⟩ : ∃ n, ln l6 = n := ⟨_, rfl⟩
      simp only [hln_l6]
      conv => arg 1; cbv
      refine sat_in hΩ ?_
      conv => arg 1; cbv
      replace h := bif_cases h
      rcases h with ⟨hb9, h⟩ | ⟨hb9, h⟩
      · refine sat_brt (by first | exact hb9 | ((try clear h); subst_vars; first | exact hb9 | rfl)) ?_
        conv => arg 1; cbv
        refine sat_true (len_ok hΩ (ro_Field hE) l6 (by first | rfl | ((try clear h); subst_vars; rfl) | ((try clear h); subst_vars; simp only [ln_set]) | assumption | ((try clear h); subst_vars; assumption)) (by first | rfl | ((try clear h); subst_vars; rfl) | ((try clear h); subst_vars; simp only [ln_set]) | assumption | ((try clear h); subst_vars; assumption))) ?_
        conv => arg 1; cbv
        obtain ⟨⟨x10_Name, ⟨x10_Value__Kind, x10_Value__N, x10_Value__S, ⟨x10_Value__L_l, x10_Value__L_x⟩, ⟨x10_Value__F_l, x10_Value__F_x⟩, x10_Value__Elem, x10_Value__Key, x10_Value__HasKey⟩⟩, hx11, hz⟩ := Option.bind_eq_some_iff.1 h
        clear h
        have h := hz
        clear hz
        try dsimp only at h
        refine sat_bind (nth_ok hΩ (ro_Field hE) hx11 (by first | rfl | ((try clear h); subst_vars; rfl)) (by first | rfl | ((try clear h); subst_vars; rfl))) ?_
        conv => arg 1; cbv
        refine sat_true (len_ok hΩ (ro_Field hE) l6 (by first | rfl | ((try clear h); subst_vars; rfl) | ((try clear h); subst_vars; simp only [ln_set]) | assumption | ((try clear h); subst_vars; assumption)) (by first | rfl | ((try clear h); subst_vars; rfl) | ((try clear h); subst_vars; simp only [ln_set]) | assumption | ((try clear h); subst_vars; assumption))) ?_
        conv => arg 1; cbv
        refine sat_bind (nth_ok hΩ (ro_Field hE) hx11 (by first | rfl | ((try clear h); subst_vars; rfl)) (by first | rfl | ((try clear h); subst_vars; rfl))) ?_
        conv => arg 1; cbv
        obtain ⟨r12, hx13, hz⟩ := Option.bind_eq_some_iff.1 h
        clear h
        have h := hz
        clear hz
        refine sat_call (ok25x1 hΩ hE hx13 (by (try clear h); subst_vars; rfl) _) ?_
        conv => arg 1; cbv
        obtain ⟨q, hq22, hz⟩ := Option.bind_eq_some_iff.1 h
        clear h
        have h := hz
        clear hz
        refine sat_grp hΩ ((fun (q : (List Field) × Int) => (match q with | (l20, i21) => (.normal, [(0, PV.row 0 0 (ln l20)), (1, PV.fn 25 [.eptr [.str d0]]), (4, PV.row 0 1 0), (5, PV.d (.int .i64 i21)), (6, PV.d (.int .i64 i8)), (7, PV.ptr 0 2 0)], ([X.Obj.row 49 9 (E.L_Field l20) true none, X.Obj.row 49 9 (E.L_Field l1) true none, X.Obj.box 49 [.d (.str x10_Name), .d (.int .u8 x10_Value__Kind), .d (.int .i64 x10_Value__N), .d (.str x10_Value__S), .d (.sl (E.L_Value x10_Value__L_l) (E.X_Value x10_Value__L_x)), .d (.sl (E.L_Field x10_Value__F_l) (E.X_Field x10_Value__F_x)), .d (.int .u8 x10_Value__Elem), .d (.str x10_Value__Key), .d (.bool x10_Value__HasKey)]] : List X.Obj) :: st))) q) (fun k hk => ?_) ?_
        · clear h
          have h := hq22
          clear hq22
          conv => arg 1; cbv
          replace h := bif_cases h
          rcases h with ⟨hb14, h⟩ | ⟨hb14, h⟩
          · refine sat_brt (by first | exact hb14 | ((try clear h); subst_vars; first | exact hb14 | rfl)) ?_
            conv => arg 1; cbv
            refine sat_true (len_ok hΩ (ro_Field hE) l6 (by first | rfl | ((try clear h); subst_vars; rfl) | ((try clear h); subst_vars; simp only [ln_set]) | assumption | ((try clear h); subst_vars; assumption)) (by first | rfl | ((try clear h); subst_vars; rfl) | ((try clear h); subst_vars; simp only [ln_set]) | assumption | ((try clear h); subst_vars; assumption))) ?_
            conv => arg 1; cbv
            obtain ⟨⟨x15_Name, ⟨x15_Value__Kind, x15_Value__N, x15_Value__S, ⟨x15_Value__L_l, x15_Value__L_x⟩, ⟨x15_Value__F_l, x15_Value__F_x⟩, x15_Value__Elem, x15_Value__Key, x15_Value__HasKey⟩⟩, hx16, hz⟩ := Option.bind_eq_some_iff.1 h
            clear h
            have h := hz
            clear hz
            try dsimp only at h
            refine sat_bind (nth_ok hΩ (ro_Field hE) hx16 (by first | rfl | ((try clear h); subst_vars; rfl)) (by first | rfl | ((try clear h); subst_vars; rfl))) ?_
            conv => arg 1; cbv
            refine sat_true (len_ok hΩ (ro_Field hE) l6 (by first | rfl | ((try clear h); subst_vars; rfl) | ((try clear h); subst_vars; simp only [ln_set]) | assumption | ((try clear h); subst_vars; assumption)) (by first | rfl | ((try clear h); subst_vars; rfl) | ((try clear h); subst_vars; simp only [ln_set]) | assumption | ((try clear h); subst_vars; assumption))) ?_
            conv => arg 1; cbv
            refine sat_bind (nth_ok hΩ (ro_Field hE) hx16 (by first | rfl | ((try clear h); subst_vars; rfl)) (by first | rfl | ((try clear h); subst_vars; rfl))) ?_
            conv => arg 1; cbv
            refine sat_set hΩ (ro_Field hE) l6 i7 (Field.mk x10_Name (Value.mk x10_Value__Kind x10_Value__N x10_Value__S (Sl.mk x10_Value__L_l x10_Value__L_x) (Sl.mk x10_Value__F_l x10_Value__F_x) x10_Value__Elem x10_Value__Key x10_Value__HasKey)) (by first | rfl | ((try clear h); subst_vars; rfl)) (by first | rfl | ((try clear h); subst_vars; rfl)) (by first | rfl | ((try clear h); subst_vars; rfl)) fun l17 hl18 => ?_
            conv => arg 1; cbv
            obtain rfl := Option.some.inj h
            subst_vars
            first | exact hk | (simp only [ln_set] at hk ⊢; exact hk)
          · refine sat_brf (by first | exact hb14 | ((try clear h); subst_vars; first | exact hb14 | rfl)) ?_
            conv => arg 1; cbv
            obtain rfl := Option.some.inj h
            subst_vars
            first | exact hk | (simp only [ln_set] at hk ⊢; exact hk)
        · clear hq22
          rcases q with ⟨l20, i21⟩
          try dsimp only at h
          obtain ⟨ln_l20, hln_l20⟩ : ∃ n, ln l20 = n := ⟨_, rfl⟩
          simp only [hln_l20]
          conv => arg 1; cbv
          obtain rfl := Option.some.inj h
          subst_vars
          first | exact sat_pure ⟨rfl, rfl, rfl⟩ | (refine sat_pure ⟨rfl, ?_, ?_⟩ <;> first | rfl | (dsimp only; simp only [ln_set]; rfl))
      · refine sat_brf (by first | exact hb9 | ((try clear h); subst_vars; first | exact hb9 | rfl)) ?_
        conv => arg 1; cbv
        obtain rfl := Option.some.inj h
        subst_vars
        first | exact sat_pure (.inl ⟨⟨_, rfl⟩, rfl⟩) | (refine sat_pure (.inl ⟨⟨_, rfl⟩, ?_⟩); dsimp only; simp only [ln_set]; rfl)
    · clear hl23
      rcases q with ⟨o24, o25, o26⟩
      dsimp only at h
      obtain ⟨ln_o24, hln_o24⟩ : ∃ n, ln o24 = n := ⟨_, rfl⟩
      simp only [hln_o24]
      conv => arg 1; cbv
      refine sat_true (len_ok hΩ (ro_Field hE) o24 (by first | rfl | ((try clear h); subst_vars; rfl) | ((try clear h); subst_vars; simp only [ln_set]) | assumption | ((try clear h); subst_vars; assumption)) (by first | rfl | ((try clear h); subst_vars; rfl) | ((try clear h); subst_vars; simp only [ln_set]) | assumption | ((try clear h); subst_vars; assumption))) ?_
      conv => arg 1; cbv
      replace h := bif_some h
      obtain ⟨hb27, h⟩ := h
      refine sat_true (by first | exact hb27 | ((try clear h); subst_vars; first | exact hb27 | rfl)) ?_
      conv => arg 1; cbv
      replace h := bif_some h
      obtain ⟨hb28, h⟩ := h
      refine sat_true (by first | exact hb28 | ((try clear h); subst_vars; first | exact hb28 | rfl)) ?_
      conv => arg 1; cbv
      refine sat_true (len_ok hΩ (ro_Field hE) o24 (by first | rfl | ((try clear h); subst_vars; rfl) | ((try clear h); subst_vars; simp only [ln_set]) | assumption | ((try clear h); subst_vars; assumption)) (by first | rfl | ((try clear h); subst_vars; rfl) | ((try clear h); subst_vars; simp only [ln_set]) | assumption | ((try clear h); subst_vars; assumption))) ?_
      conv => arg 1; cbv
      refine sat_cut hΩ (ro_Field hE) o24 0 o25 (by first | rfl | ((try clear h); subst_vars; rfl)) (by first | rfl | ((try clear h); subst_vars; rfl)) (by first | rfl | ((try clear h); subst_vars; rfl)) fun l29 hl30 => ?_
      conv => arg 1; cbv
      refine sat_fill hΩ (ro_Field hE) (Field.mk ByteArray.empty (Value.mk 0 0 ByteArray.empty (Sl.mk [] (some [])) (Sl.mk [] (some [])) 0 ByteArray.empty false)) (ln o24 - o25) (by first | rfl | ((try clear h); subst_vars; rfl)) (by first | rfl | ((try clear h); subst_vars; rfl)) fun l31 hl32 n33 hn34 => ?_
      conv => arg 1; cbv
      refine sat_cat hΩ (ro_Field hE) l29 l31 (by first | rfl | ((try clear h); subst_vars; rfl)) (by first | rfl | ((try clear h); subst_vars; rfl)) fun l35 hl36 n37 hn38 => ?_
      have hn39 : ln l35 = ln_o24 := by (try clear h); subst_vars; exact ln_clear (by assumption) (by assumption)
      conv => arg 1; cbv
      refine sat_true (len_ok hΩ (ro_Field hE) ((cut o24 0 o25) ++ (List.replicate (Int.toNat (ln o24 - o25)) (Field.mk ByteArray.empty (Value.mk 0 0 ByteArray.empty (Sl.mk [] (some [])) (Sl.mk [] (some [])) 0 ByteArray.empty false)))) (by first | rfl | ((try clear h); subst_vars; rfl) | ((try clear h); subst_vars; simp only [ln_set]) | assumption | ((try clear h); subst_vars; assumption)) (by first | rfl | ((try clear h); subst_vars; rfl) | ((try clear h); subst_vars; simp only [ln_set]) | assumption | ((try clear h); subst_vars; assumption))) ?_
      conv => arg 1; cbv
      replace h := bif_some h
      obtain ⟨hb40, h⟩ := h
      refine sat_true (by first | exact hb40 | ((try clear h); subst_vars; first | exact hb40 | rfl)) ?_
      conv => arg 1; cbv
      replace h := bif_some h
      obtain ⟨hb41, h⟩ := h
      refine sat_true (by first | exact hb41 | ((try clear h); subst_vars; first | exact hb41 | rfl)) ?_
      conv => arg 1; cbv
      refine sat_cut hΩ (ro_Field hE) ((cut o24 0 o25) ++ (List.replicate (Int.toNat (ln o24 - o25)) (Field.mk ByteArray.empty (Value.mk 0 0 ByteArray.empty (Sl.mk [] (some [])) (Sl.mk [] (some [])) 0 ByteArray.empty false)))) 0 o25 (by first | rfl | ((try clear h); subst_vars; rfl)) (by first | rfl | ((try clear h); subst_vars; rfl)) (by first | rfl | ((try clear h); subst_vars; rfl)) fun l42 hl43 => ?_
      conv => arg 1; cbv
      obtain ⟨n44, hn45⟩ : ∃ n, ln (cut ((cut o24 0 o25) ++ (List.replicate (Int.toNat (ln o24 - o25)) (Field.mk ByteArray.empty (Value.mk 0 0 ByteArray.empty (Sl.mk [] (some [])) (Sl.mk [] (some [])) 0 ByteArray.empty false)))) 0 o25) = n := ⟨_, rfl⟩
      rw [show o25 = n44 from by (try clear h); subst_vars; first | exact ln_cut0 (by assumption) (by assumption) | exact ln_cut0' (by assumption) (by assumption) (by assumption)]
      refine sat_addfar' hΩ hH fun kk st2 hk2 hs2 => ?_
      conv => arg 1; cbv
      obtain rfl := Option.some.inj h
      subst_vars
      exact sat_pure rfl
set_option maxHeartbeats 4000000 in
theorem ok7 {Ω : Om} {E : Enc} (hΩ : real (call S) = Ω) (hE : theEnc = E) {fu : Nat} {a0 : Sl Field} {a1 : ByteArray} {a2 : Value} {r : (Sl Field)} (h : P7 fu a0 a1 a2 = some r) {args : List PV} (ha : [PV.d (.sl (E.L_Field a0.l) (E.X_Field a0.x)), PV.d (.str a1), pv_Value E a2] = args) (st : St) :
    Sat (Ω.cf 7 args st) (fun q => q = (PV.d (.sl (E.L_Field r.l) (E.X_Field r.x)), st)) := by
  subst ha
  rcases a0 with ⟨a0_l, a0_x⟩
  rcases a2 with ⟨a2_Kind, a2_N, a2_S, ⟨a2_L_l, a2_L_x⟩, ⟨a2_F_l, a2_F_x⟩, a2_Elem, a2_Key, a2_HasKey⟩
  rw [cf_body hΩ (f := 7) (fn := Try.f7) (x := c7) rfl rfl c7_ok rfl rfl rfl]
  unfold P7 at h
  try dsimp only at h
  conv => arg 1; cbv
  obtain ⟨r2, hx1, hz⟩ := Option.bind_eq_some_iff.1 h
  clear h
  have h := hz
  clear hz
  obtain ⟨n3, hn4⟩ : ∃ n, ln r2 = n := ⟨_, rfl⟩
  refine sat_call (ok24 hΩ hE (st := ([] : List X.Obj) :: st) hx1 (by (try clear h); subst_vars; rfl) rfl hn4) ?_
  conv => arg 1; cbv
  obtain ⟨r6, hx5, hz⟩ := Option.bind_eq_some_iff.1 h
  clear h
  have h := hz
  clear hz
  obtain ⟨n7, hn8⟩ : ∃ n, ln r6 = n := ⟨_, rfl⟩
  refine sat_call (ok23x1 hΩ hE (st0 := ([X.Obj.row 49 9 (E.L_Field r2) true none] : List X.Obj) :: st) (st := ([X.Obj.void] : List X.Obj) :: st) (tz := 0) (tn := n3) (tcp := none) hx5 (by (try clear h); subst_vars; rfl) (by (try clear h); subst_vars; rfl) rfl rfl rfl hn8) ?_
  conv => arg 1; cbv
  refine sat_in hΩ ?_
  conv => arg 1; cbv
  obtain ⟨⟨r9_Kind, r9_N, r9_S, ⟨r9_L_l, r9_L_x⟩, ⟨r9_F_l, r9_F_x⟩, r9_Elem, r9_Key, r9_HasKey⟩, hx10, hz⟩ := Option.bind_eq_some_iff.1 h
  clear h
  have h := hz
  clear hz
  try dsimp only at h
  refine sat_call (ok26 hΩ hE hx10 (by (try clear h); subst_vars; rfl) _) ?_
  conv => arg 1; cbv
  refine sat_true (same_ok hΩ _) ?_
  conv => arg 1; cbv
  refine sat_true (same_ok hΩ _) ?_
  conv => arg 1; cbv
  refine sat_true (same_ok hΩ _) ?_
  conv => arg 1; cbv
  refine sat_true (ieq_ok hΩ _) ?_
  conv => arg 1; cbv
  refine sat_true (fits_l hΩ (ro_Field hE) [(Field.mk a1 (Value.mk r9_Kind r9_N r9_S (Sl.mk r9_L_l r9_L_x) (Sl.mk r9_F_l r9_F_x) r9_Elem r9_Key r9_HasKey))] (by first | rfl | ((try clear h); subst_vars; rfl))) ?_
  conv => arg 1; cbv
  refine sat_true (len_ok hΩ (ro_Field hE) r6 (by first | rfl | ((try clear h); subst_vars; rfl) | ((try clear h); subst_vars; simp only [ln_set]) | assumption | ((try clear h); subst_vars; assumption)) (by first | rfl | ((try clear h); subst_vars; rfl) | ((try clear h); subst_vars; simp only [ln_set]) | assumption | ((try clear h); subst_vars; assumption))) ?_
  conv => arg 1; cbv
  refine sat_brf (len_zero hΩ (ro_Field hE) (l := [(Field.mk a1 (Value.mk r9_Kind r9_N r9_S (Sl.mk r9_L_l r9_L_x) (Sl.mk r9_F_l r9_F_x) r9_Elem r9_Key r9_HasKey))]) (b := false) (by rfl) (by first | rfl | ((try clear h); subst_vars; rfl))) ?_
  conv => arg 1; cbv
  refine sat_cat hΩ (ro_Field hE) r6 [(Field.mk a1 (Value.mk r9_Kind r9_N r9_S (Sl.mk r9_L_l r9_L_x) (Sl.mk r9_F_l r9_F_x) r9_Elem r9_Key r9_HasKey))] (by first | rfl | ((try clear h); subst_vars; rfl)) (by first | rfl | ((try clear h); subst_vars; rfl)) fun l11 hl12 n13 hn14 => ?_
  conv => arg 1; cbv
  replace h := bif_some h
  obtain ⟨hb15, h⟩ := h
  refine sat_true (by first | exact hb15 | ((try clear h); subst_vars; first | exact hb15 | rfl)) ?_
  conv => arg 1; cbv
  refine sat_true (len_ok hΩ (ro_Field hE) (r6 ++ [(Field.mk a1 (Value.mk r9_Kind r9_N r9_S (Sl.mk r9_L_l r9_L_x) (Sl.mk r9_F_l r9_F_x) r9_Elem r9_Key r9_HasKey))]) (by first | rfl | ((try clear h); subst_vars; rfl) | ((try clear h); subst_vars; simp only [ln_set]) | assumption | ((try clear h); subst_vars; assumption)) (by first | rfl | ((try clear h); subst_vars; rfl) | ((try clear h); subst_vars; simp only [ln_set]) | assumption | ((try clear h); subst_vars; assumption))) ?_
  conv => arg 1; cbv
  obtain rfl := Option.some.inj h
  subst_vars
  exact sat_pure rfl
theorem ok29 {Ω : Om} {E : Enc} (hΩ : real (call S) = Ω) (hE : theEnc = E) {a0 : Sl Field} {a1 : ByteArray} {args : List PV} (ha : [PV.d (.sl (E.L_Field a0.l) (E.X_Field a0.x)), PV.d (.str a1)] = args) (st : St) :
    Sat (Ω.cf 29 args st) (fun q => q = (PV.fn 52 [.eptr [.sl (E.L_Field a0.l) (E.X_Field a0.x)], .eptr [.str a1]], st)) := by
  subst ha
  rw [cf_body hΩ (f := 29) (fn := Try.f29) (x := c29) rfl rfl c29_ok rfl rfl rfl]
  conv => arg 1; cbv
  exact sat_pure rfl
theorem ok53 {Ω : Om} {E : Enc} (hΩ : real (call S) = Ω) (hE : theEnc = E) {a0 : Sl Field} {args : List PV} (ha : [PV.d (.sl (E.L_Field a0.l) (E.X_Field a0.x))] = args) (st : St) :
    Sat (Ω.cf 53 args st) (fun q => q = (PV.fn 71 [.eptr [.sl (E.L_Field a0.l) (E.X_Field a0.x)]], st)) := by
  subst ha
  rw [cf_body hΩ (f := 53) (fn := Try.f53) (x := c53) rfl rfl c53_ok rfl rfl rfl]
  conv => arg 1; cbv
  exact sat_pure rfl
set_option maxHeartbeats 4000000 in
theorem ok117x1 {Ω : Om} {E : Enc} (hΩ : real (call S) = Ω) (hE : theEnc = E) {fu : Nat} {a1 : Value} {b0 c0 : Option X.Ex} {b1 c1 : Value} {S : ((Option X.Ex) × Value) → St} {lz0 iz0 iz1 : Nat} (e0 : b0 = c0) (e1 : b1 = c1) (hg0 : ∀ s, X.look (S s) lz0 iz0 = some (X.Obj.loop 117 [(4, PV.ptr 0 iz1 0)] s.1)) (hu0 : ∀ s x, X.setO (S s) lz0 iz0 (X.Obj.loop 117 [(4, PV.ptr 0 iz1 0)] x) = S (x, s.2)) (hg1 : ∀ s, X.look (S s) lz0 iz1 = some (X.Obj.box 27 (bx_27 E s.2))) (hu1 : ∀ s x, X.setO (S s) lz0 iz1 (X.Obj.box 27 (bx_27 E x)) = S (s.1, x)) {r : Bool × (Option X.Ex) × Value} (h : P117x1 fu a1 b0 b1 = some r) {args : List PV} (ha : [PV.yld lz0 iz0, pv_Value E a1] = args) {st : St} (hst : S (c0, c1) = st) :
    Sat (Ω.rd 117 args st) (fun q => q = (PV.d (.bool r.1), S (r.2.1, r.2.2))) := by
  subst ha
  subst hst
  subst e0
  subst e1
  rcases a1 with ⟨a1_Kind, a1_N, a1_S, ⟨a1_L_l, a1_L_x⟩, ⟨a1_F_l, a1_F_x⟩, a1_Elem, a1_Key, a1_HasKey⟩
  rcases b1 with ⟨b1_Kind, b1_N, b1_S, ⟨b1_L_l, b1_L_x⟩, ⟨b1_F_l, b1_F_x⟩, b1_Elem, b1_Key, b1_HasKey⟩
  rw [cf_round hΩ (g := 117) rfl rfl cs117_ok]
  unfold P117x1 at h
  try dsimp only at h
  rcases b0 with _ | _
  · try dsimp only at h
    refine sat_round hΩ (hg0 _) (by exact (show downE (lz0+1) [(4, PV.ptr 0 iz1 0)] = [(4, PV.ptr (lz0+1) iz1 0)] by simp only [downE, down, down.downs, Nat.zero_add])) ?_
    conv => arg 1; cbv
    refine sat_loopfar hΩ (hg0 _) ?_
    conv => arg 1; cbv
    refine sat_setfar hΩ (hu0 _ _) ?_
    conv => arg 1; cbv
    obtain ⟨⟨r1_Kind, r1_N, r1_S, ⟨r1_L_l, r1_L_x⟩, ⟨r1_F_l, r1_F_x⟩, r1_Elem, r1_Key, r1_HasKey⟩, hx2, hz⟩ := Option.bind_eq_some_iff.1 h
    clear h
    have h := hz
    clear hz
    try dsimp only at h
    refine sat_call (ok26 hΩ hE hx2 (by (try clear h); subst_vars; rfl) _) ?_
    conv => arg 1; cbv
    refine sat_putfar hΩ (hg1 _) (hu1 _ (Value.mk r1_Kind r1_N r1_S (Sl.mk r1_L_l r1_L_x) (Sl.mk r1_F_l r1_F_x) r1_Elem r1_Key r1_HasKey)) rfl rfl (by first | rfl | ((try clear h); subst_vars; rfl)) ?_
    conv => arg 1; cbv
    refine sat_loopfar hΩ (hg0 _) ?_
    conv => arg 1; cbv
    refine sat_setfar hΩ (hu0 _ _) ?_
    conv => arg 1; cbv
    obtain rfl := Option.some.inj h
    subst_vars
    exact sat_pure rfl
  · try dsimp only at h
    cases h
set_option maxHeartbeats 4000000 in
theorem ok118x1 {Ω : Om} {E : Enc} (hΩ : real (call S) = Ω) (hE : theEnc = E) {fu : Nat} {a1 : Int} {a2 : Field} {d0 : ByteArray} {b0 c0 : Option X.Ex} {b2 c2 : Option X.Ex} {b3 c3 : Value} {S : ((Option X.Ex) × (Option X.Ex) × Value) → St} {lz0 lz1 ly1 iz0 iz1 iz2 iz3 : Nat} (hl1 : ly1 + lz0 = lz1) (e0 : b0 = c0) (e2 : b2 = c2) (e3 : b3 = c3) (hg0 : ∀ s, X.look (S s) lz0 iz0 = some (X.Obj.loop 118 [(2, PV.eptr [.str d0]), (3, PV.ptr 0 iz1 0)] s.1)) (hu0 : ∀ s x, X.setO (S s) lz0 iz0 (X.Obj.loop 118 [(2, PV.eptr [.str d0]), (3, PV.ptr 0 iz1 0)] x) = S (x, s.2.1, s.2.2)) (hg1 : ∀ s, X.look (S s) lz0 iz1 = some (X.Obj.box 66 [PV.yld ly1 iz2])) (hg2 : ∀ s, X.look (S s) lz1 iz2 = some (X.Obj.loop 117 [(4, PV.ptr 0 iz3 0)] s.2.1)) (hu2 : ∀ s x, X.setO (S s) lz1 iz2 (X.Obj.loop 117 [(4, PV.ptr 0 iz3 0)] x) = S (s.1, x, s.2.2)) (hg3 : ∀ s, X.look (S s) lz1 iz3 = some (X.Obj.box 27 (bx_27 E s.2.2))) (hu3 : ∀ s x, X.setO (S s) lz1 iz3 (X.Obj.box 27 (bx_27 E x)) = S (s.1, s.2.1, x)) {r : Bool × (Option X.Ex) × (Option X.Ex) × Value} (h : P118x1 fu a1 a2 d0 b0 b2 b3 = some r) {args : List PV} (ha : [PV.yld lz0 iz0, PV.d (.int .i64 a1), pv_Field E a2] = args) {st : St} (hst : S (c0, c2, c3) = st) :
    Sat (Ω.rd 118 args st) (fun q => q = (PV.d (.bool r.1), S (r.2.1, r.2.2.1, r.2.2.2))) := by
  subst ha
  subst hst
  subst e0
  subst e2
  subst e3
  rcases a2 with ⟨a2_Name, ⟨a2_Value__Kind, a2_Value__N, a2_Value__S, ⟨a2_Value__L_l, a2_Value__L_x⟩, ⟨a2_Value__F_l, a2_Value__F_x⟩, a2_Value__Elem, a2_Value__Key, a2_Value__HasKey⟩⟩
  rcases b3 with ⟨b3_Kind, b3_N, b3_S, ⟨b3_L_l, b3_L_x⟩, ⟨b3_F_l, b3_F_x⟩, b3_Elem, b3_Key, b3_HasKey⟩
  rw [cf_round hΩ (g := 118) rfl rfl cs118_ok]
  unfold P118x1 at h
  try dsimp only at h
  rcases b0 with _ | _
  · try dsimp only at h
    refine sat_round hΩ (hg0 _) (by exact (show downE (lz0+1) [(2, PV.eptr [.str d0]), (3, PV.ptr 0 iz1 0)] = [(2, PV.eptr [.str d0]), (3, PV.ptr (lz0+1) iz1 0)] by simp only [downE, down, down.downs, Nat.zero_add, ← hl1, Nat.add_assoc])) ?_
    conv => arg 1; cbv
    refine sat_loopfar hΩ (hg0 _) ?_
    conv => arg 1; cbv
    refine sat_setfar hΩ (hu0 _ _) ?_
    conv => arg 1; cbv
    obtain ⟨q, hq10, hz⟩ := Option.bind_eq_some_iff.1 h
    clear h
    have h := hz
    clear hz
    refine sat_grp hΩ ((fun (q : (Option X.Ex) × Int × Int × ByteArray × (List Value) × (Option (List Value)) × (List Field) × (Option (List Field)) × Int × ByteArray × Bool × Bool) => (match q with | (g6, g7_Kind, g7_N, g7_S, g7_L_l, g7_L_x, g7_F_l, g7_F_x, g7_Elem, g7_Key, g7_HasKey, i8) => ([(2, PV.eptr [.str d0]), (3, PV.ptr (lz0+1) iz1 0), (5, PV.ptr 0 0 0), (8, PV.d (.int .i64 a1)), (9, PV.agg [.d (.str a2_Name), .d (.int .u8 a2_Value__Kind), .d (.int .i64 a2_Value__N), .d (.str a2_Value__S), .d (.sl (E.L_Value a2_Value__L_l) (E.X_Value a2_Value__L_x)), .d (.sl (E.L_Field a2_Value__F_l) (E.X_Field a2_Value__F_x)), .d (.int .u8 a2_Value__Elem), .d (.str a2_Value__Key), .d (.bool a2_Value__HasKey)]), (20, PV.d (.bool i8))], ([X.Obj.box 49 [.d (.str a2_Name), .d (.int .u8 a2_Value__Kind), .d (.int .i64 a2_Value__N), .d (.str a2_Value__S), .d (.sl (E.L_Value a2_Value__L_l) (E.X_Value a2_Value__L_x)), .d (.sl (E.L_Field a2_Value__F_l) (E.X_Field a2_Value__F_x)), .d (.int .u8 a2_Value__Elem), .d (.str a2_Value__Key), .d (.bool a2_Value__HasKey)]] : List X.Obj) :: S ((some .normal), g6, (Value.mk g7_Kind g7_N g7_S (Sl.mk g7_L_l g7_L_x) (Sl.mk g7_F_l g7_F_x) g7_Elem g7_Key g7_HasKey))))) q) (fun k hk => ?_) ?_
    · clear h
      have h := hq10
      clear hq10
      conv => arg 1; cbv
      replace h := bif_cases h
      rcases h with ⟨hb1, h⟩ | ⟨hb1, h⟩
      · refine sat_brt (by first | exact hb1 | ((try clear h); subst_vars; first | exact hb1 | rfl)) ?_
        conv => arg 1; cbv
        refine sat_far hΩ (hg1 _) (by exact (show down.downs (lz0+1) [PV.yld ly1 iz2] = [PV.yld (lz1+1) iz2] by simp only [down.downs, down, Nat.zero_add, ← hl1, Nat.add_assoc])) ?_
        conv => arg 1; cbv
        rcases b2 with _ | _
        · try dsimp only at h
          refine sat_loopfar hΩ (hg2 _) ?_
          conv => arg 1; cbv
          obtain ⟨⟨r3, wr4, ⟨wr5_Kind, wr5_N, wr5_S, ⟨wr5_L_l, wr5_L_x⟩, ⟨wr5_F_l, wr5_F_x⟩, wr5_Elem, wr5_Key, wr5_HasKey⟩⟩, hx2, hz⟩ := Option.bind_eq_some_iff.1 h
          clear h
          have h := hz
          clear hz
          try dsimp only at h
          refine sat_call (ok117x1 hΩ hE (S := (fun (s : (Option X.Ex) × Value) => ([X.Obj.box 49 [.d (.str a2_Name), .d (.int .u8 a2_Value__Kind), .d (.int .i64 a2_Value__N), .d (.str a2_Value__S), .d (.sl (E.L_Value a2_Value__L_l) (E.X_Value a2_Value__L_x)), .d (.sl (E.L_Field a2_Value__F_l) (E.X_Field a2_Value__F_x)), .d (.int .u8 a2_Value__Elem), .d (.str a2_Value__Key), .d (.bool a2_Value__HasKey)]] : List X.Obj) :: S ((some .normal), s.1, s.2))) (lz0 := (lz1+1)) (iz0 := iz2) (iz1 := iz3) (c0 := none) (c1 := (Value.mk b3_Kind b3_N b3_S (Sl.mk b3_L_l b3_L_x) (Sl.mk b3_F_l b3_F_x) b3_Elem b3_Key b3_HasKey)) (by (try clear h); subst_vars; rfl) (by (try clear h); subst_vars; rfl) (fun s => hg2 ((some .normal), s.1, s.2)) (fun s x => congrArg (List.cons _) (hu2 ((some .normal), s.1, s.2) x)) (fun s => hg3 ((some .normal), s.1, s.2)) (fun s x => congrArg (List.cons _) (hu3 ((some .normal), s.1, s.2) x)) hx2 (by (try clear h); subst_vars; rfl) (by (try clear h); subst_vars; rfl)) ?_
          conv => arg 1; cbv
          obtain rfl := Option.some.inj h
          subst_vars
          first | exact hk | (simp only [ln_set] at hk ⊢; exact hk)
        · try dsimp only at h
          cases h
      · refine sat_brf (by first | exact hb1 | ((try clear h); subst_vars; first | exact hb1 | rfl)) ?_
        conv => arg 1; cbv
        obtain rfl := Option.some.inj h
        subst_vars
        first | exact hk | (simp only [ln_set] at hk ⊢; exact hk)
    · clear hq10
      rcases q with ⟨g6, g7_Kind, g7_N, g7_S, g7_L_l, g7_L_x, g7_F_l, g7_F_x, g7_Elem, g7_Key, g7_HasKey, i8⟩
      try dsimp only at h
      conv => arg 1; cbv
      refine sat_in hΩ ?_
      conv => arg 1; cbv
      replace h := bif_cases h
      rcases h with ⟨hb9, h⟩ | ⟨hb9, h⟩
      · refine sat_brt (by first | exact hb9 | ((try clear h); subst_vars; first | exact hb9 | rfl)) ?_
        conv => arg 1; cbv
        refine sat_loopfar hΩ (hg0 _) ?_
        conv => arg 1; cbv
        refine sat_setfar hΩ (hu0 _ _) ?_
        conv => arg 1; cbv
        obtain rfl := Option.some.inj h
        subst_vars
        exact sat_pure rfl
      · refine sat_brf (by first | exact hb9 | ((try clear h); subst_vars; first | exact hb9 | rfl)) ?_
        conv => arg 1; cbv
        refine sat_loopfar hΩ (hg0 _) ?_
        conv => arg 1; cbv
        refine sat_setfar hΩ (hu0 _ _) ?_
        conv => arg 1; cbv
        obtain rfl := Option.some.inj h
        subst_vars
        exact sat_pure rfl
  · try dsimp only at h
    cases h
set_option maxHeartbeats 4000000 in
theorem ok71x1 {Ω : Om} {E : Enc} (hΩ : real (call S) = Ω) (hE : theEnc = E) {fu : Nat} {a1 : Sl Field} {d0 : ByteArray} {b0 c0 : Option X.Ex} {b2 c2 : Option X.Ex} {b3 c3 : Value} {S : ((Option X.Ex) × (Option X.Ex) × Value) → St} {lz0 lz1 ly1 iz0 iz1 iz2 iz3 : Nat} (hl1 : ly1 + lz0 = lz1) (e0 : b0 = c0) (e2 : b2 = c2) (e3 : b3 = c3) (hg0 : ∀ s, X.look (S s) lz0 iz0 = some (X.Obj.loop 118 [(2, PV.eptr [.str d0]), (3, PV.ptr 0 iz1 0)] s.1)) (hu0 : ∀ s x, X.setO (S s) lz0 iz0 (X.Obj.loop 118 [(2, PV.eptr [.str d0]), (3, PV.ptr 0 iz1 0)] x) = S (x, s.2.1, s.2.2)) (hg1 : ∀ s, X.look (S s) lz0 iz1 = some (X.Obj.box 66 [PV.yld ly1 iz2])) (hg2 : ∀ s, X.look (S s) lz1 iz2 = some (X.Obj.loop 117 [(4, PV.ptr 0 iz3 0)] s.2.1)) (hu2 : ∀ s x, X.setO (S s) lz1 iz2 (X.Obj.loop 117 [(4, PV.ptr 0 iz3 0)] x) = S (s.1, x, s.2.2)) (hg3 : ∀ s, X.look (S s) lz1 iz3 = some (X.Obj.box 27 (bx_27 E s.2.2))) (hu3 : ∀ s x, X.setO (S s) lz1 iz3 (X.Obj.box 27 (bx_27 E x)) = S (s.1, s.2.1, x)) {r : (Option X.Ex) × (Option X.Ex) × Value} (h : P71x1 fu a1 d0 b0 b2 b3 = some r) {args : List PV} (ha : [PV.yld lz0 iz0, PV.eptr [.sl (E.L_Field a1.l) (E.X_Field a1.x)]] = args) {st : St} (hst : S (c0, c2, c3) = st) :
    Sat (Ω.cf 71 args st) (fun q => q = (PV.tup [], S (r.1, r.2.1, r.2.2))) := by
  subst ha
  subst hst
  subst e0
  subst e2
  subst e3
  rcases a1 with ⟨a1_l, a1_x⟩
  rcases b3 with ⟨b3_Kind, b3_N, b3_S, ⟨b3_L_l, b3_L_x⟩, ⟨b3_F_l, b3_F_x⟩, b3_Elem, b3_Key, b3_HasKey⟩
  rw [cf_body hΩ (f := 71) (fn := Try.f71) (x := c71) rfl rfl c71_ok rfl rfl rfl]
  unfold P71x1 at h
  try dsimp only at h
  conv => arg 1; cbv
  refine sat_len hΩ (ro_Field hE) a1_l (by first | rfl | ((try clear h); subst_vars; rfl)) fun n1 hn2 => ?_
  conv => arg 1; cbv
  obtain ⟨q, hl16, hz⟩ := Option.bind_eq_some_iff.1 h
  clear h
  have h := hz
  clear hz
  refine sat_loop hΩ (fun (a : (Option X.Ex) × (Option X.Ex) × Int × Int × ByteArray × (List Value) × (Option (List Value)) × (List Field) × (Option (List Field)) × Int × ByteArray × Bool × Int) => (match a with | (g3, g4, g5_Kind, g5_N, g5_S, g5_L_l, g5_L_x, g5_F_l, g5_F_x, g5_Elem, g5_Key, g5_HasKey, i6) => ([(0, PV.yld (lz0+1) iz0), (1, PV.eptr [.sl (E.L_Field a1_l) (E.X_Field a1_x)]), (3, PV.d (.int .i64 i6))], ([] : List X.Obj) :: S (g3, g4, (Value.mk g5_Kind g5_N g5_S (Sl.mk g5_L_l g5_L_x) (Sl.mk g5_F_l g5_F_x) g5_Elem g5_Key g5_HasKey))))) (fun (q : ((Option X.Ex) × (Option X.Ex) × Int × Int × ByteArray × (List Value) × (Option (List Value)) × (List Field) × (Option (List Field)) × Int × ByteArray × Bool × Int) ⊕ ((Option X.Ex) × (Option X.Ex) × Int × Int × ByteArray × (List Value) × (Option (List Value)) × (List Field) × (Option (List Field)) × Int × ByteArray × Bool × Int)) => (match q with | .inl (o17, o18, o19, o20, o21, o22, o23, o24, o25, o26, o27, o28, o29) => (.exit 0, [(0, PV.yld (lz0+1) iz0), (1, PV.eptr [.sl (E.L_Field a1_l) (E.X_Field a1_x)]), (3, PV.d (.int .i64 o29))], ([] : List X.Obj) :: S (o17, o18, (Value.mk o19 o20 o21 (Sl.mk o22 o23) (Sl.mk o24 o25) o26 o27 o28))) | .inr (o30, o31, o32, o33, o34, o35, o36, o37, o38, o39, o40, o41, o42) => (.ret, [(0, PV.yld (lz0+1) iz0), (1, PV.eptr [.sl (E.L_Field a1_l) (E.X_Field a1_x)]), (3, PV.d (.int .i64 o42))], ([] : List X.Obj) :: S (o30, o31, (Value.mk o32 o33 o34 (Sl.mk o35 o36) (Sl.mk o37 o38) o39 o40 o41))))) (b0, b2, b3_Kind, b3_N, b3_S, b3_L_l, b3_L_x, b3_F_l, b3_F_x, b3_Elem, b3_Key, b3_HasKey, w64 ((ln a1_l) - 1)) hl16 (by first | rfl | ((try clear h); subst_vars; rfl) | ((try clear h); subst_vars; simp only [ln_set]) | assumption | ((try clear h); subst_vars; assumption)) ?_ ?_
  · clear h hl16
    rintro ⟨g3, g4, g5_Kind, g5_N, g5_S, g5_L_l, g5_L_x, g5_F_l, g5_F_x, g5_Elem, g5_Key, g5_HasKey, i6⟩ q h
    unfold P71x1_s0 at h
    dsimp only at h
    conv => arg 1; cbv
    refine sat_in hΩ ?_
    conv => arg 1; cbv
    replace h := bif_cases h
    rcases h with ⟨hb7, h⟩ | ⟨hb7, h⟩
    · refine sat_brt (by first | exact hb7 | ((try clear h); subst_vars; first | exact hb7 | rfl)) ?_
      conv => arg 1; cbv
      refine sat_true (fits_l hΩ (ro_Field hE) a1_l (by first | rfl | ((try clear h); subst_vars; rfl))) ?_
      conv => arg 1; cbv
      obtain ⟨⟨x8_Name, ⟨x8_Value__Kind, x8_Value__N, x8_Value__S, ⟨x8_Value__L_l, x8_Value__L_x⟩, ⟨x8_Value__F_l, x8_Value__F_x⟩, x8_Value__Elem, x8_Value__Key, x8_Value__HasKey⟩⟩, hx9, hz⟩ := Option.bind_eq_some_iff.1 h
      clear h
      have h := hz
      clear hz
      try dsimp only at h
      refine sat_bind (nth_ok hΩ (ro_Field hE) hx9 (by first | rfl | ((try clear h); subst_vars; rfl)) (by first | rfl | ((try clear h); subst_vars; rfl))) ?_
      conv => arg 1; cbv
      rcases g3 with _ | _
      · try dsimp only at h
        refine sat_loopfar hΩ (hg0 _) ?_
        conv => arg 1; cbv
        obtain ⟨⟨r11, wr12, wr13, ⟨wr14_Kind, wr14_N, wr14_S, ⟨wr14_L_l, wr14_L_x⟩, ⟨wr14_F_l, wr14_F_x⟩, wr14_Elem, wr14_Key, wr14_HasKey⟩⟩, hx10, hz⟩ := Option.bind_eq_some_iff.1 h
        clear h
        have h := hz
        clear hz
        try dsimp only at h
        refine sat_call (ok118x1 hΩ hE (S := (fun (s : (Option X.Ex) × (Option X.Ex) × Value) => ([] : List X.Obj) :: S (s.1, s.2.1, s.2.2))) (lz0 := (lz0+1)) (lz1 := (lz1+1)) (ly1 := ly1) (iz0 := iz0) (iz1 := iz1) (iz2 := iz2) (iz3 := iz3) (c0 := none) (c2 := g4) (c3 := (Value.mk g5_Kind g5_N g5_S (Sl.mk g5_L_l g5_L_x) (Sl.mk g5_F_l g5_F_x) g5_Elem g5_Key g5_HasKey)) (by first | rfl | omega) (by (try clear h); subst_vars; rfl) (by (try clear h); subst_vars; rfl) (by (try clear h); subst_vars; rfl) (fun s => hg0 (s.1, s.2.1, s.2.2)) (fun s x => congrArg (List.cons _) (hu0 (s.1, s.2.1, s.2.2) x)) (fun s => hg1 (s.1, s.2.1, s.2.2)) (fun s => hg2 (s.1, s.2.1, s.2.2)) (fun s x => congrArg (List.cons _) (hu2 (s.1, s.2.1, s.2.2) x)) (fun s => hg3 (s.1, s.2.1, s.2.2)) (fun s x => congrArg (List.cons _) (hu3 (s.1, s.2.1, s.2.2) x)) hx10 (by (try clear h); subst_vars; rfl) (by (try clear h); subst_vars; rfl)) ?_
        conv => arg 1; cbv
        refine sat_in hΩ ?_
        conv => arg 1; cbv
        replace h := bif_cases h
        rcases h with ⟨hb15, h⟩ | ⟨hb15, h⟩
        · refine sat_brt (by first | exact hb15 | ((try clear h); subst_vars; first | exact hb15 | rfl)) ?_
          conv => arg 1; cbv
          obtain rfl := Option.some.inj h
          subst_vars
          first | exact sat_pure (.inr ⟨rfl, rfl⟩) | (refine sat_pure (.inr ⟨rfl, ?_⟩); dsimp only; simp only [ln_set]; rfl)
        · refine sat_brf (by first | exact hb15 | ((try clear h); subst_vars; first | exact hb15 | rfl)) ?_
          conv => arg 1; cbv
          obtain rfl := Option.some.inj h
          subst_vars
          first | exact sat_pure ⟨rfl, rfl, rfl⟩ | (refine sat_pure ⟨rfl, ?_, ?_⟩ <;> first | rfl | (dsimp only; simp only [ln_set]; rfl))
      · try dsimp only at h
        cases h
    · refine sat_brf (by first | exact hb7 | ((try clear h); subst_vars; first | exact hb7 | rfl)) ?_
      conv => arg 1; cbv
      obtain rfl := Option.some.inj h
      subst_vars
      first | exact sat_pure (.inl ⟨⟨_, rfl⟩, rfl⟩) | (refine sat_pure (.inl ⟨⟨_, rfl⟩, ?_⟩); dsimp only; simp only [ln_set]; rfl)
  · clear hl16
    rcases q with ⟨o17, o18, o19, o20, o21, o22, o23, o24, o25, o26, o27, o28, o29⟩ | ⟨o30, o31, o32, o33, o34, o35, o36, o37, o38, o39, o40, o41, o42⟩
    · dsimp only at h
      conv => arg 1; cbv
      obtain rfl := Option.some.inj h
      subst_vars
      exact sat_pure rfl
    · dsimp only at h
      conv => arg 1; cbv
      obtain rfl := Option.some.inj h
      subst_vars
      exact sat_pure rfl
set_option maxHeartbeats 4000000 in
theorem ok52x1 {Ω : Om} {E : Enc} (hΩ : real (call S) = Ω) (hE : theEnc = E) {fu : Nat} {a1 : Sl Field} {a2 : ByteArray} {b0 c0 : Option X.Ex} {b1 c1 : Value} {S : ((Option X.Ex) × Value) → St} {lz0 iz0 iz1 : Nat} (e0 : b0 = c0) (e1 : b1 = c1) (hg0 : ∀ s, X.look (S s) lz0 iz0 = some (X.Obj.loop 117 [(4, PV.ptr 0 iz1 0)] s.1)) (hu0 : ∀ s x, X.setO (S s) lz0 iz0 (X.Obj.loop 117 [(4, PV.ptr 0 iz1 0)] x) = S (x, s.2)) (hg1 : ∀ s, X.look (S s) lz0 iz1 = some (X.Obj.box 27 (bx_27 E s.2))) (hu1 : ∀ s x, X.setO (S s) lz0 iz1 (X.Obj.box 27 (bx_27 E x)) = S (s.1, x)) {r : (Option X.Ex) × Value} (h : P52x1 fu a1 a2 b0 b1 = some r) {args : List PV} (ha : [PV.yld lz0 iz0, PV.eptr [.sl (E.L_Field a1.l) (E.X_Field a1.x)], PV.eptr [.str a2]] = args) {st : St} (hst : S (c0, c1) = st) :
    Sat (Ω.cf 52 args st) (fun q => q = (PV.tup [], S (r.1, r.2))) := by
  subst ha
  subst hst
  subst e0
  subst e1
  rcases a1 with ⟨a1_l, a1_x⟩
  rcases b1 with ⟨b1_Kind, b1_N, b1_S, ⟨b1_L_l, b1_L_x⟩, ⟨b1_F_l, b1_F_x⟩, b1_Elem, b1_Key, b1_HasKey⟩
  rw [cf_body hΩ (f := 52) (fn := Try.f52) (x := c52) rfl rfl c52_ok rfl rfl rfl]
  unfold P52x1 at h
  try dsimp only at h
  conv => arg 1; cbv
  refine sat_call (ok53 hΩ hE (a0 := (Sl.mk a1_l a1_x)) (by (try clear h); subst_vars; rfl) _) ?_
  conv => arg 1; cbv
  obtain ⟨⟨wr2, wr3, ⟨wr4_Kind, wr4_N, wr4_S, ⟨wr4_L_l, wr4_L_x⟩, ⟨wr4_F_l, wr4_F_x⟩, wr4_Elem, wr4_Key, wr4_HasKey⟩⟩, hx1, hz⟩ := Option.bind_eq_some_iff.1 h
  clear h
  have h := hz
  clear hz
  try dsimp only at h
  refine sat_call (ok71x1 hΩ hE (S := (fun (s : (Option X.Ex) × (Option X.Ex) × Value) => ([X.Obj.box 66 [.yld (lz0+1) iz0], X.Obj.loop 118 [(2, PV.eptr [.str a2]), (3, PV.ptr 0 0 0)] s.1] : List X.Obj) :: S (s.2.1, s.2.2))) (lz0 := 0) (lz1 := (lz0+1)) (ly1 := (lz0+1)) (iz0 := 1) (iz1 := 0) (iz2 := iz0) (iz3 := iz1) (c0 := none) (c2 := b0) (c3 := (Value.mk b1_Kind b1_N b1_S (Sl.mk b1_L_l b1_L_x) (Sl.mk b1_F_l b1_F_x) b1_Elem b1_Key b1_HasKey)) (by first | rfl | omega) (by (try clear h); subst_vars; rfl) (by (try clear h); subst_vars; rfl) (by (try clear h); subst_vars; rfl) (fun s => rfl) (fun s x => rfl) (fun s => rfl) (fun s => hg0 (s.2.1, s.2.2)) (fun s x => congrArg (List.cons _) (hu0 (s.2.1, s.2.2) x)) (fun s => hg1 (s.2.1, s.2.2)) (fun s x => congrArg (List.cons _) (hu1 (s.2.1, s.2.2) x)) hx1 (by (try clear h); subst_vars; rfl) (by (try clear h); subst_vars; rfl)) ?_
  conv => arg 1; cbv
  rcases wr2 with _ | (_ | id | _)
  · try dsimp only at h
    conv => arg 1; cbv
    obtain rfl := Option.some.inj h
    subst_vars
    exact sat_pure rfl
  · try dsimp only at h
    cases h
  ·
    try dsimp only at h
    cases h
  · try dsimp only at h
    conv => arg 1; cbv
    obtain rfl := Option.some.inj h
    subst_vars
    exact sat_pure rfl
set_option maxHeartbeats 4000000 in
theorem ok9 {Ω : Om} {E : Enc} (hΩ : real (call S) = Ω) (hE : theEnc = E) {fu : Nat} {a0 : Sl Field} {a1 : ByteArray} {r : Value} (h : P9 fu a0 a1 = some r) {args : List PV} (ha : [PV.d (.sl (E.L_Field a0.l) (E.X_Field a0.x)), PV.d (.str a1)] = args) (st : St) :
    Sat (Ω.cf 9 args st) (fun q => q = (pv_Value E r, st)) := by
  subst ha
  rcases a0 with ⟨a0_l, a0_x⟩
  rw [cf_body hΩ (f := 9) (fn := Try.f9) (x := c9) rfl rfl c9_ok rfl rfl rfl]
  unfold P9 at h
  try dsimp only at h
  conv => arg 1; cbv
  refine sat_call (ok29 hΩ hE (a0 := (Sl.mk a0_l a0_x)) (a1 := a1) (by (try clear h); subst_vars; rfl) _) ?_
  conv => arg 1; cbv
  obtain ⟨⟨wr2, ⟨wr3_Kind, wr3_N, wr3_S, ⟨wr3_L_l, wr3_L_x⟩, ⟨wr3_F_l, wr3_F_x⟩, wr3_Elem, wr3_Key, wr3_HasKey⟩⟩, hx1, hz⟩ := Option.bind_eq_some_iff.1 h
  clear h
  have h := hz
  clear hz
  try dsimp only at h
  refine sat_call (ok52x1 hΩ hE (S := (fun (s : (Option X.Ex) × Value) => ([X.Obj.box 27 (bx_27 E s.2), X.Obj.loop 117 [(4, PV.ptr 0 0 0)] s.1] : List X.Obj) :: st)) (lz0 := 0) (iz0 := 1) (iz1 := 0) (c0 := none) (c1 := (Value.mk 0 0 ByteArray.empty (Sl.mk [] (some [])) (Sl.mk [] (some [])) 0 ByteArray.empty false)) (by (try clear h); subst_vars; rfl) (by (try clear h); subst_vars; rfl) (fun s => rfl) (fun s x => rfl) (fun s => rfl) (fun s x => rfl) hx1 (by (try clear h); subst_vars; rfl) (by (try clear h); subst_vars; rfl)) ?_
  conv => arg 1; cbv
  rcases wr2 with _ | (_ | id | _)
  · try dsimp only at h
    conv => arg 1; cbv
    obtain rfl := Option.some.inj h
    subst_vars
    exact sat_pure rfl
  · try dsimp only at h
    cases h
  ·
    try dsimp only at h
    cases h
  · try dsimp only at h
    conv => arg 1; cbv
    obtain rfl := Option.some.inj h
    subst_vars
    exact sat_pure rfl
set_option maxHeartbeats 4000000 in
theorem okb27 {Ω : Om} {E : Enc} (hΩ : real (call S) = Ω) (hE : theEnc = E) {fu : Nat} {p27 : (Sl Value) → (Sl Value) → Option (Bool)} (hp27 : ∀ {a0 : Sl Value} {a1 : Sl Value} {r : Bool}, p27 a0 a1 = some r → ∀ {args : List PV}, [PV.d (.sl (E.L_Value a0.l) (E.X_Value a0.x)), PV.d (.sl (E.L_Value a1.l) (E.X_Value a1.x))] = args → ∀ (st : St), Sat (Ω.cf 27 args st) (fun q => q = (PV.d (.bool r), st))) {p28 : (Sl Field) → (Sl Field) → Option (Bool)} (hp28 : ∀ {a0 : Sl Field} {a1 : Sl Field} {r : Bool}, p28 a0 a1 = some r → ∀ {args : List PV}, [PV.d (.sl (E.L_Field a0.l) (E.X_Field a0.x)), PV.d (.sl (E.L_Field a1.l) (E.X_Field a1.x))] = args → ∀ (st : St), Sat (Ω.cf 28 args st) (fun q => q = (PV.d (.bool r), st))) {p51 : Field → Field → Option (Bool)} (hp51 : ∀ {a0 : Field} {a1 : Field} {r : Bool}, p51 a0 a1 = some r → ∀ {args : List PV}, [pv_Field E a0, pv_Field E a1] = args → ∀ (st : St), Sat (Ω.cf 51 args st) (fun q => q = (PV.d (.bool r), st))) {p8 : Value → Value → Option (Bool)} (hp8 : ∀ {a0 : Value} {a1 : Value} {r : Bool}, p8 a0 a1 = some r → ∀ {args : List PV}, [pv_Value E a0, pv_Value E a1] = args → ∀ (st : St), Sat (Ω.cf 8 args st) (fun q => q = (PV.d (.bool r), st))) {a0 : Sl Value} {a1 : Sl Value} {r : Bool} (h : Pb27 fu p27 p28 p51 p8 a0 a1 = some r) {args : List PV} (ha : [PV.d (.sl (E.L_Value a0.l) (E.X_Value a0.x)), PV.d (.sl (E.L_Value a1.l) (E.X_Value a1.x))] = args) (st : St) :
    Sat (Ω.cf 27 args st) (fun q => q = (PV.d (.bool r), st)) := by
  subst ha
  rcases a0 with ⟨a0_l, a0_x⟩
  rcases a1 with ⟨a1_l, a1_x⟩
  rw [cf_body hΩ (f := 27) (fn := Try.f27) (x := c27) rfl rfl c27_ok rfl rfl rfl]
  unfold Pb27 at h
  try dsimp only at h
  conv => arg 1; cbv
  refine sat_len hΩ (ro_Value hE) a0_l (by first | rfl | ((try clear h); subst_vars; rfl)) fun n1 hn2 => ?_
  conv => arg 1; cbv
  refine sat_len hΩ (ro_Value hE) a1_l (by first | rfl | ((try clear h); subst_vars; rfl)) fun n3 hn4 => ?_
  conv => arg 1; cbv
  refine sat_in hΩ ?_
  conv => arg 1; cbv
  replace h := bif_cases h
  rcases h with ⟨hb5, h⟩ | ⟨hb5, h⟩
  · refine sat_brt (by first | exact hb5 | ((try clear h); subst_vars; first | exact hb5 | rfl)) ?_
    conv => arg 1; cbv
    obtain rfl := Option.some.inj h
    subst_vars
    exact sat_pure rfl
  · refine sat_brf (by first | exact hb5 | ((try clear h); subst_vars; first | exact hb5 | rfl)) ?_
    conv => arg 1; cbv
    obtain ⟨q, hl17, hz⟩ := Option.bind_eq_some_iff.1 h
    clear h
    have h := hz
    clear hz
    refine sat_loop hΩ (fun (a : Int) => (match a with | i6 => ([(0, PV.d (.sl (E.L_Value a0_l) (E.X_Value a0_x))), (1, PV.d (.sl (E.L_Value a1_l) (E.X_Value a1_x))), (4, PV.d (.bool false)), (5, PV.d (.int .i64 i6))], ([] : List X.Obj) :: st))) (fun (q : Int ⊕ Int) => (match q with | .inl o18 => (.exit 0, [(0, PV.d (.sl (E.L_Value a0_l) (E.X_Value a0_x))), (1, PV.d (.sl (E.L_Value a1_l) (E.X_Value a1_x))), (4, PV.d (.bool false)), (5, PV.d (.int .i64 o18))], ([] : List X.Obj) :: st) | .inr o19 => (.ret, [(0, PV.d (.sl (E.L_Value a0_l) (E.X_Value a0_x))), (1, PV.d (.sl (E.L_Value a1_l) (E.X_Value a1_x))), (4, PV.d (.bool false)), (5, PV.d (.int .i64 o19))], ([] : List X.Obj) :: st))) 0 hl17 (by first | rfl | ((try clear h); subst_vars; rfl) | ((try clear h); subst_vars; simp only [ln_set]) | assumption | ((try clear h); subst_vars; assumption)) ?_ ?_
    · clear h hl17
      rintro i6 q h
      unfold P27_s0 at h
      dsimp only at h
      conv => arg 1; cbv
      refine sat_len hΩ (ro_Value hE) a0_l (by first | rfl | ((try clear h); subst_vars; rfl)) fun n7 hn8 => ?_
      conv => arg 1; cbv
      refine sat_in hΩ ?_
      conv => arg 1; cbv
      replace h := bif_cases h
      rcases h with ⟨hb9, h⟩ | ⟨hb9, h⟩
      · refine sat_brt (by first | exact hb9 | ((try clear h); subst_vars; first | exact hb9 | rfl)) ?_
        conv => arg 1; cbv
        refine sat_true (fits_l hΩ (ro_Value hE) a0_l (by first | rfl | ((try clear h); subst_vars; rfl))) ?_
        conv => arg 1; cbv
        obtain ⟨⟨x10_Kind, x10_N, x10_S, ⟨x10_L_l, x10_L_x⟩, ⟨x10_F_l, x10_F_x⟩, x10_Elem, x10_Key, x10_HasKey⟩, hx11, hz⟩ := Option.bind_eq_some_iff.1 h
        clear h
        have h := hz
        clear hz
        try dsimp only at h
        refine sat_bind (nth_ok hΩ (ro_Value hE) hx11 (by first | rfl | ((try clear h); subst_vars; rfl)) (by first | rfl | ((try clear h); subst_vars; rfl))) ?_
        conv => arg 1; cbv
        refine sat_true (fits_l hΩ (ro_Value hE) a1_l (by first | rfl | ((try clear h); subst_vars; rfl))) ?_
        conv => arg 1; cbv
        obtain ⟨⟨x12_Kind, x12_N, x12_S, ⟨x12_L_l, x12_L_x⟩, ⟨x12_F_l, x12_F_x⟩, x12_Elem, x12_Key, x12_HasKey⟩, hx13, hz⟩ := Option.bind_eq_some_iff.1 h
        clear h
        have h := hz
        clear hz
        try dsimp only at h
        refine sat_bind (nth_ok hΩ (ro_Value hE) hx13 (by first | rfl | ((try clear h); subst_vars; rfl)) (by first | rfl | ((try clear h); subst_vars; rfl))) ?_
        conv => arg 1; cbv
        obtain ⟨r14, hx15, hz⟩ := Option.bind_eq_some_iff.1 h
        clear h
        have h := hz
        clear hz
        refine sat_call (hp8 hx15 (by (try clear h); subst_vars; rfl) _) ?_
        conv => arg 1; cbv
        refine sat_true (same_ok hΩ _) ?_
        conv => arg 1; cbv
        refine sat_in hΩ ?_
        conv => arg 1; cbv
        replace h := bif_cases h
        rcases h with ⟨hb16, h⟩ | ⟨hb16, h⟩
        · refine sat_brt (by first | exact hb16 | ((try clear h); subst_vars; first | exact hb16 | rfl)) ?_
          conv => arg 1; cbv
          obtain rfl := Option.some.inj h
          subst_vars
          first | exact sat_pure (.inr ⟨rfl, rfl⟩) | (refine sat_pure (.inr ⟨rfl, ?_⟩); dsimp only; simp only [ln_set]; rfl)
        · refine sat_brf (by first | exact hb16 | ((try clear h); subst_vars; first | exact hb16 | rfl)) ?_
          conv => arg 1; cbv
          obtain rfl := Option.some.inj h
          subst_vars
          first | exact sat_pure ⟨rfl, rfl, rfl⟩ | (refine sat_pure ⟨rfl, ?_, ?_⟩ <;> first | rfl | (dsimp only; simp only [ln_set]; rfl))
      · refine sat_brf (by first | exact hb9 | ((try clear h); subst_vars; first | exact hb9 | rfl)) ?_
        conv => arg 1; cbv
        obtain rfl := Option.some.inj h
        subst_vars
        first | exact sat_pure (.inl ⟨⟨_, rfl⟩, rfl⟩) | (refine sat_pure (.inl ⟨⟨_, rfl⟩, ?_⟩); dsimp only; simp only [ln_set]; rfl)
    · clear hl17
      rcases q with o18 | o19
      · dsimp only at h
        conv => arg 1; cbv
        obtain rfl := Option.some.inj h
        subst_vars
        exact sat_pure rfl
      · dsimp only at h
        conv => arg 1; cbv
        obtain rfl := Option.some.inj h
        subst_vars
        exact sat_pure rfl
set_option maxHeartbeats 4000000 in
theorem okb28 {Ω : Om} {E : Enc} (hΩ : real (call S) = Ω) (hE : theEnc = E) {fu : Nat} {p27 : (Sl Value) → (Sl Value) → Option (Bool)} (hp27 : ∀ {a0 : Sl Value} {a1 : Sl Value} {r : Bool}, p27 a0 a1 = some r → ∀ {args : List PV}, [PV.d (.sl (E.L_Value a0.l) (E.X_Value a0.x)), PV.d (.sl (E.L_Value a1.l) (E.X_Value a1.x))] = args → ∀ (st : St), Sat (Ω.cf 27 args st) (fun q => q = (PV.d (.bool r), st))) {p28 : (Sl Field) → (Sl Field) → Option (Bool)} (hp28 : ∀ {a0 : Sl Field} {a1 : Sl Field} {r : Bool}, p28 a0 a1 = some r → ∀ {args : List PV}, [PV.d (.sl (E.L_Field a0.l) (E.X_Field a0.x)), PV.d (.sl (E.L_Field a1.l) (E.X_Field a1.x))] = args → ∀ (st : St), Sat (Ω.cf 28 args st) (fun q => q = (PV.d (.bool r), st))) {p51 : Field → Field → Option (Bool)} (hp51 : ∀ {a0 : Field} {a1 : Field} {r : Bool}, p51 a0 a1 = some r → ∀ {args : List PV}, [pv_Field E a0, pv_Field E a1] = args → ∀ (st : St), Sat (Ω.cf 51 args st) (fun q => q = (PV.d (.bool r), st))) {p8 : Value → Value → Option (Bool)} (hp8 : ∀ {a0 : Value} {a1 : Value} {r : Bool}, p8 a0 a1 = some r → ∀ {args : List PV}, [pv_Value E a0, pv_Value E a1] = args → ∀ (st : St), Sat (Ω.cf 8 args st) (fun q => q = (PV.d (.bool r), st))) {a0 : Sl Field} {a1 : Sl Field} {r : Bool} (h : Pb28 fu p27 p28 p51 p8 a0 a1 = some r) {args : List PV} (ha : [PV.d (.sl (E.L_Field a0.l) (E.X_Field a0.x)), PV.d (.sl (E.L_Field a1.l) (E.X_Field a1.x))] = args) (st : St) :
    Sat (Ω.cf 28 args st) (fun q => q = (PV.d (.bool r), st)) := by
  subst ha
  rcases a0 with ⟨a0_l, a0_x⟩
  rcases a1 with ⟨a1_l, a1_x⟩
  rw [cf_body hΩ (f := 28) (fn := Try.f28) (x := c28) rfl rfl c28_ok rfl rfl rfl]
  unfold Pb28 at h
  try dsimp only at h
  conv => arg 1; cbv
  refine sat_len hΩ (ro_Field hE) a0_l (by first | rfl | ((try clear h); subst_vars; rfl)) fun n1 hn2 => ?_
  conv => arg 1; cbv
  refine sat_len hΩ (ro_Field hE) a1_l (by first | rfl | ((try clear h); subst_vars; rfl)) fun n3 hn4 => ?_
  conv => arg 1; cbv
  refine sat_in hΩ ?_
  conv => arg 1; cbv
  replace h := bif_cases h
  rcases h with ⟨hb5, h⟩ | ⟨hb5, h⟩
  · refine sat_brt (by first | exact hb5 | ((try clear h); subst_vars; first | exact hb5 | rfl)) ?_
    conv => arg 1; cbv
    obtain rfl := Option.some.inj h
    subst_vars
    exact sat_pure rfl
  · refine sat_brf (by first | exact hb5 | ((try clear h); subst_vars; first | exact hb5 | rfl)) ?_
    conv => arg 1; cbv
    obtain ⟨q, hl17, hz⟩ := Option.bind_eq_some_iff.1 h
    clear h
    have h := hz
    clear hz
    refine sat_loop hΩ (fun (a : Int) => (match a with | i6 => ([(0, PV.d (.sl (E.L_Field a0_l) (E.X_Field a0_x))), (1, PV.d (.sl (E.L_Field a1_l) (E.X_Field a1_x))), (4, PV.d (.bool false)), (5, PV.d (.int .i64 i6))], ([] : List X.Obj) :: st))) (fun (q : Int ⊕ Int) => (match q with | .inl o18 => (.exit 0, [(0, PV.d (.sl (E.L_Field a0_l) (E.X_Field a0_x))), (1, PV.d (.sl (E.L_Field a1_l) (E.X_Field a1_x))), (4, PV.d (.bool false)), (5, PV.d (.int .i64 o18))], ([] : List X.Obj) :: st) | .inr o19 => (.ret, [(0, PV.d (.sl (E.L_Field a0_l) (E.X_Field a0_x))), (1, PV.d (.sl (E.L_Field a1_l) (E.X_Field a1_x))), (4, PV.d (.bool false)), (5, PV.d (.int .i64 o19))], ([] : List X.Obj) :: st))) 0 hl17 (by first | rfl | ((try clear h); subst_vars; rfl) | ((try clear h); subst_vars; simp only [ln_set]) | assumption | ((try clear h); subst_vars; assumption)) ?_ ?_
    · clear h hl17
      rintro i6 q h
      unfold P28_s0 at h
      dsimp only at h
      conv => arg 1; cbv
      refine sat_len hΩ (ro_Field hE) a0_l (by first | rfl | ((try clear h); subst_vars; rfl)) fun n7 hn8 => ?_
      conv => arg 1; cbv
      refine sat_in hΩ ?_
      conv => arg 1; cbv
      replace h := bif_cases h
      rcases h with ⟨hb9, h⟩ | ⟨hb9, h⟩
      · refine sat_brt (by first | exact hb9 | ((try clear h); subst_vars; first | exact hb9 | rfl)) ?_
        conv => arg 1; cbv
        refine sat_true (fits_l hΩ (ro_Field hE) a0_l (by first | rfl | ((try clear h); subst_vars; rfl))) ?_
        conv => arg 1; cbv
        obtain ⟨⟨x10_Name, ⟨x10_Value__Kind, x10_Value__N, x10_Value__S, ⟨x10_Value__L_l, x10_Value__L_x⟩, ⟨x10_Value__F_l, x10_Value__F_x⟩, x10_Value__Elem, x10_Value__Key, x10_Value__HasKey⟩⟩, hx11, hz⟩ := Option.bind_eq_some_iff.1 h
        clear h
        have h := hz
        clear hz
        try dsimp only at h
        refine sat_bind (nth_ok hΩ (ro_Field hE) hx11 (by first | rfl | ((try clear h); subst_vars; rfl)) (by first | rfl | ((try clear h); subst_vars; rfl))) ?_
        conv => arg 1; cbv
        refine sat_true (fits_l hΩ (ro_Field hE) a1_l (by first | rfl | ((try clear h); subst_vars; rfl))) ?_
        conv => arg 1; cbv
        obtain ⟨⟨x12_Name, ⟨x12_Value__Kind, x12_Value__N, x12_Value__S, ⟨x12_Value__L_l, x12_Value__L_x⟩, ⟨x12_Value__F_l, x12_Value__F_x⟩, x12_Value__Elem, x12_Value__Key, x12_Value__HasKey⟩⟩, hx13, hz⟩ := Option.bind_eq_some_iff.1 h
        clear h
        have h := hz
        clear hz
        try dsimp only at h
        refine sat_bind (nth_ok hΩ (ro_Field hE) hx13 (by first | rfl | ((try clear h); subst_vars; rfl)) (by first | rfl | ((try clear h); subst_vars; rfl))) ?_
        conv => arg 1; cbv
        obtain ⟨r14, hx15, hz⟩ := Option.bind_eq_some_iff.1 h
        clear h
        have h := hz
        clear hz
        refine sat_call (hp51 hx15 (by (try clear h); subst_vars; rfl) _) ?_
        conv => arg 1; cbv
        refine sat_true (same_ok hΩ _) ?_
        conv => arg 1; cbv
        refine sat_in hΩ ?_
        conv => arg 1; cbv
        replace h := bif_cases h
        rcases h with ⟨hb16, h⟩ | ⟨hb16, h⟩
        · refine sat_brt (by first | exact hb16 | ((try clear h); subst_vars; first | exact hb16 | rfl)) ?_
          conv => arg 1; cbv
          obtain rfl := Option.some.inj h
          subst_vars
          first | exact sat_pure (.inr ⟨rfl, rfl⟩) | (refine sat_pure (.inr ⟨rfl, ?_⟩); dsimp only; simp only [ln_set]; rfl)
        · refine sat_brf (by first | exact hb16 | ((try clear h); subst_vars; first | exact hb16 | rfl)) ?_
          conv => arg 1; cbv
          obtain rfl := Option.some.inj h
          subst_vars
          first | exact sat_pure ⟨rfl, rfl, rfl⟩ | (refine sat_pure ⟨rfl, ?_, ?_⟩ <;> first | rfl | (dsimp only; simp only [ln_set]; rfl))
      · refine sat_brf (by first | exact hb9 | ((try clear h); subst_vars; first | exact hb9 | rfl)) ?_
        conv => arg 1; cbv
        obtain rfl := Option.some.inj h
        subst_vars
        first | exact sat_pure (.inl ⟨⟨_, rfl⟩, rfl⟩) | (refine sat_pure (.inl ⟨⟨_, rfl⟩, ?_⟩); dsimp only; simp only [ln_set]; rfl)
    · clear hl17
      rcases q with o18 | o19
      · dsimp only at h
        conv => arg 1; cbv
        obtain rfl := Option.some.inj h
        subst_vars
        exact sat_pure rfl
      · dsimp only at h
        conv => arg 1; cbv
        obtain rfl := Option.some.inj h
        subst_vars
        exact sat_pure rfl
set_option maxHeartbeats 4000000 in
theorem okb51 {Ω : Om} {E : Enc} (hΩ : real (call S) = Ω) (hE : theEnc = E) {fu : Nat} {p27 : (Sl Value) → (Sl Value) → Option (Bool)} (hp27 : ∀ {a0 : Sl Value} {a1 : Sl Value} {r : Bool}, p27 a0 a1 = some r → ∀ {args : List PV}, [PV.d (.sl (E.L_Value a0.l) (E.X_Value a0.x)), PV.d (.sl (E.L_Value a1.l) (E.X_Value a1.x))] = args → ∀ (st : St), Sat (Ω.cf 27 args st) (fun q => q = (PV.d (.bool r), st))) {p28 : (Sl Field) → (Sl Field) → Option (Bool)} (hp28 : ∀ {a0 : Sl Field} {a1 : Sl Field} {r : Bool}, p28 a0 a1 = some r → ∀ {args : List PV}, [PV.d (.sl (E.L_Field a0.l) (E.X_Field a0.x)), PV.d (.sl (E.L_Field a1.l) (E.X_Field a1.x))] = args → ∀ (st : St), Sat (Ω.cf 28 args st) (fun q => q = (PV.d (.bool r), st))) {p51 : Field → Field → Option (Bool)} (hp51 : ∀ {a0 : Field} {a1 : Field} {r : Bool}, p51 a0 a1 = some r → ∀ {args : List PV}, [pv_Field E a0, pv_Field E a1] = args → ∀ (st : St), Sat (Ω.cf 51 args st) (fun q => q = (PV.d (.bool r), st))) {p8 : Value → Value → Option (Bool)} (hp8 : ∀ {a0 : Value} {a1 : Value} {r : Bool}, p8 a0 a1 = some r → ∀ {args : List PV}, [pv_Value E a0, pv_Value E a1] = args → ∀ (st : St), Sat (Ω.cf 8 args st) (fun q => q = (PV.d (.bool r), st))) {a0 : Field} {a1 : Field} {r : Bool} (h : Pb51 fu p27 p28 p51 p8 a0 a1 = some r) {args : List PV} (ha : [pv_Field E a0, pv_Field E a1] = args) (st : St) :
    Sat (Ω.cf 51 args st) (fun q => q = (PV.d (.bool r), st)) := by
  subst ha
  rcases a0 with ⟨a0_Name, ⟨a0_Value__Kind, a0_Value__N, a0_Value__S, ⟨a0_Value__L_l, a0_Value__L_x⟩, ⟨a0_Value__F_l, a0_Value__F_x⟩, a0_Value__Elem, a0_Value__Key, a0_Value__HasKey⟩⟩
  rcases a1 with ⟨a1_Name, ⟨a1_Value__Kind, a1_Value__N, a1_Value__S, ⟨a1_Value__L_l, a1_Value__L_x⟩, ⟨a1_Value__F_l, a1_Value__F_x⟩, a1_Value__Elem, a1_Value__Key, a1_Value__HasKey⟩⟩
  rw [cf_body hΩ (f := 51) (fn := Try.f51) (x := c51) rfl rfl c51_ok rfl rfl rfl]
  unfold Pb51 at h
  try dsimp only at h
  conv => arg 1; cbv
  obtain ⟨q, hq5, hz⟩ := Option.bind_eq_some_iff.1 h
  clear h
  have h := hz
  clear hz
  refine sat_grp hΩ ((fun (q : Bool) => (match q with | i4 => ([(0, PV.agg [.d (.str a0_Name), .d (.int .u8 a0_Value__Kind), .d (.int .i64 a0_Value__N), .d (.str a0_Value__S), .d (.sl (E.L_Value a0_Value__L_l) (E.X_Value a0_Value__L_x)), .d (.sl (E.L_Field a0_Value__F_l) (E.X_Field a0_Value__F_x)), .d (.int .u8 a0_Value__Elem), .d (.str a0_Value__Key), .d (.bool a0_Value__HasKey)]), (1, PV.agg [.d (.str a1_Name), .d (.int .u8 a1_Value__Kind), .d (.int .i64 a1_Value__N), .d (.str a1_Value__S), .d (.sl (E.L_Value a1_Value__L_l) (E.X_Value a1_Value__L_x)), .d (.sl (E.L_Field a1_Value__F_l) (E.X_Field a1_Value__F_x)), .d (.int .u8 a1_Value__Elem), .d (.str a1_Value__Key), .d (.bool a1_Value__HasKey)]), (2, PV.ptr 0 0 0), (3, PV.ptr 0 1 0), (4, PV.d (.bool i4))], ([X.Obj.box 49 [.d (.str a0_Name), .d (.int .u8 a0_Value__Kind), .d (.int .i64 a0_Value__N), .d (.str a0_Value__S), .d (.sl (E.L_Value a0_Value__L_l) (E.X_Value a0_Value__L_x)), .d (.sl (E.L_Field a0_Value__F_l) (E.X_Field a0_Value__F_x)), .d (.int .u8 a0_Value__Elem), .d (.str a0_Value__Key), .d (.bool a0_Value__HasKey)], X.Obj.box 49 [.d (.str a1_Name), .d (.int .u8 a1_Value__Kind), .d (.int .i64 a1_Value__N), .d (.str a1_Value__S), .d (.sl (E.L_Value a1_Value__L_l) (E.X_Value a1_Value__L_x)), .d (.sl (E.L_Field a1_Value__F_l) (E.X_Field a1_Value__F_x)), .d (.int .u8 a1_Value__Elem), .d (.str a1_Value__Key), .d (.bool a1_Value__HasKey)]] : List X.Obj) :: st))) q) (fun k hk => ?_) ?_
  · clear h
    have h := hq5
    clear hq5
    conv => arg 1; cbv
    replace h := bif_cases h
    rcases h with ⟨hb1, h⟩ | ⟨hb1, h⟩
    · refine sat_brt (by first | exact hb1 | ((try clear h); subst_vars; first | exact hb1 | rfl)) ?_
      conv => arg 1; cbv
      obtain ⟨r2, hx3, hz⟩ := Option.bind_eq_some_iff.1 h
      clear h
      have h := hz
      clear hz
      refine sat_call (hp8 hx3 (by (try clear h); subst_vars; rfl) _) ?_
      conv => arg 1; cbv
      refine sat_tick hΩ ?_
      conv => arg 1; cbv
      obtain rfl := Option.some.inj h
      subst_vars
      first | exact hk | (simp only [ln_set] at hk ⊢; exact hk)
    · refine sat_brf (by first | exact hb1 | ((try clear h); subst_vars; first | exact hb1 | rfl)) ?_
      conv => arg 1; cbv
      refine sat_tick hΩ ?_
      conv => arg 1; cbv
      obtain rfl := Option.some.inj h
      subst_vars
      first | exact hk | (simp only [ln_set] at hk ⊢; exact hk)
  · clear hq5
    obtain ⟨i4, hqq⟩ : ∃ x, x = q := ⟨_, rfl⟩
    subst hqq
    try dsimp only at h
    conv => arg 1; cbv
    obtain rfl := Option.some.inj h
    subst_vars
    exact sat_pure rfl
set_option maxHeartbeats 4000000 in
theorem okb8 {Ω : Om} {E : Enc} (hΩ : real (call S) = Ω) (hE : theEnc = E) {fu : Nat} {p27 : (Sl Value) → (Sl Value) → Option (Bool)} (hp27 : ∀ {a0 : Sl Value} {a1 : Sl Value} {r : Bool}, p27 a0 a1 = some r → ∀ {args : List PV}, [PV.d (.sl (E.L_Value a0.l) (E.X_Value a0.x)), PV.d (.sl (E.L_Value a1.l) (E.X_Value a1.x))] = args → ∀ (st : St), Sat (Ω.cf 27 args st) (fun q => q = (PV.d (.bool r), st))) {p28 : (Sl Field) → (Sl Field) → Option (Bool)} (hp28 : ∀ {a0 : Sl Field} {a1 : Sl Field} {r : Bool}, p28 a0 a1 = some r → ∀ {args : List PV}, [PV.d (.sl (E.L_Field a0.l) (E.X_Field a0.x)), PV.d (.sl (E.L_Field a1.l) (E.X_Field a1.x))] = args → ∀ (st : St), Sat (Ω.cf 28 args st) (fun q => q = (PV.d (.bool r), st))) {p51 : Field → Field → Option (Bool)} (hp51 : ∀ {a0 : Field} {a1 : Field} {r : Bool}, p51 a0 a1 = some r → ∀ {args : List PV}, [pv_Field E a0, pv_Field E a1] = args → ∀ (st : St), Sat (Ω.cf 51 args st) (fun q => q = (PV.d (.bool r), st))) {p8 : Value → Value → Option (Bool)} (hp8 : ∀ {a0 : Value} {a1 : Value} {r : Bool}, p8 a0 a1 = some r → ∀ {args : List PV}, [pv_Value E a0, pv_Value E a1] = args → ∀ (st : St), Sat (Ω.cf 8 args st) (fun q => q = (PV.d (.bool r), st))) {a0 : Value} {a1 : Value} {r : Bool} (h : Pb8 fu p27 p28 p51 p8 a0 a1 = some r) {args : List PV} (ha : [pv_Value E a0, pv_Value E a1] = args) (st : St) :
    Sat (Ω.cf 8 args st) (fun q => q = (PV.d (.bool r), st)) := by
  subst ha
  rcases a0 with ⟨a0_Kind, a0_N, a0_S, ⟨a0_L_l, a0_L_x⟩, ⟨a0_F_l, a0_F_x⟩, a0_Elem, a0_Key, a0_HasKey⟩
  rcases a1 with ⟨a1_Kind, a1_N, a1_S, ⟨a1_L_l, a1_L_x⟩, ⟨a1_F_l, a1_F_x⟩, a1_Elem, a1_Key, a1_HasKey⟩
  rw [cf_body hΩ (f := 8) (fn := Try.f8) (x := c8) rfl rfl c8_ok rfl rfl rfl]
  unfold Pb8 at h
  try dsimp only at h
  conv => arg 1; cbv
  obtain ⟨q, hq13, hz⟩ := Option.bind_eq_some_iff.1 h
  clear h
  have h := hz
  clear hz
  refine sat_grp hΩ ((fun (q : Bool) => (match q with | i12 => ([(0, PV.agg [.d (.int .u8 a0_Kind), .d (.int .i64 a0_N), .d (.str a0_S), .d (.sl (E.L_Value a0_L_l) (E.X_Value a0_L_x)), .d (.sl (E.L_Field a0_F_l) (E.X_Field a0_F_x)), .d (.int .u8 a0_Elem), .d (.str a0_Key), .d (.bool a0_HasKey)]), (1, PV.agg [.d (.int .u8 a1_Kind), .d (.int .i64 a1_N), .d (.str a1_S), .d (.sl (E.L_Value a1_L_l) (E.X_Value a1_L_x)), .d (.sl (E.L_Field a1_F_l) (E.X_Field a1_F_x)), .d (.int .u8 a1_Elem), .d (.str a1_Key), .d (.bool a1_HasKey)]), (2, PV.ptr 0 0 0), (3, PV.ptr 0 1 0), (4, PV.d (.bool i12))], ([X.Obj.box 27 [.d (.int .u8 a0_Kind), .d (.int .i64 a0_N), .d (.str a0_S), .d (.sl (E.L_Value a0_L_l) (E.X_Value a0_L_x)), .d (.sl (E.L_Field a0_F_l) (E.X_Field a0_F_x)), .d (.int .u8 a0_Elem), .d (.str a0_Key), .d (.bool a0_HasKey)], X.Obj.box 27 [.d (.int .u8 a1_Kind), .d (.int .i64 a1_N), .d (.str a1_S), .d (.sl (E.L_Value a1_L_l) (E.X_Value a1_L_x)), .d (.sl (E.L_Field a1_F_l) (E.X_Field a1_F_x)), .d (.int .u8 a1_Elem), .d (.str a1_Key), .d (.bool a1_HasKey)]] : List X.Obj) :: st))) q) (fun k hk => ?_) ?_
  · clear h
    have h := hq13
    clear hq13
    conv => arg 1; cbv
    replace h := bif_cases h
    rcases h with ⟨hb1, h⟩ | ⟨hb1, h⟩
    · refine sat_brt (by first | exact hb1 | ((try clear h); subst_vars; first | exact hb1 | rfl)) ?_
      conv => arg 1; cbv
      refine sat_tick hΩ ?_
      conv => arg 1; cbv
      replace h := bif_cases h
      rcases h with ⟨hb2, h⟩ | ⟨hb2, h⟩
      · refine sat_brt (by first | exact hb2 | ((try clear h); subst_vars; first | exact hb2 | rfl)) ?_
        conv => arg 1; cbv
        replace h := bif_cases h
        rcases h with ⟨hb3, h⟩ | ⟨hb3, h⟩
        · refine sat_brt (by first | exact hb3 | ((try clear h); subst_vars; first | exact hb3 | rfl)) ?_
          conv => arg 1; cbv
          refine sat_tick hΩ ?_
          conv => arg 1; cbv
          obtain ⟨r4, hx5, hz⟩ := Option.bind_eq_some_iff.1 h
          clear h
          have h := hz
          clear hz
          refine sat_call (hp27 hx5 (by (try clear h); subst_vars; rfl) _) ?_
          conv => arg 1; cbv
          replace h := bif_cases h
          rcases h with ⟨hb6, h⟩ | ⟨hb6, h⟩
          · refine sat_brt (by first | exact hb6 | ((try clear h); subst_vars; first | exact hb6 | rfl)) ?_
            conv => arg 1; cbv
            obtain ⟨r7, hx8, hz⟩ := Option.bind_eq_some_iff.1 h
            clear h
            have h := hz
            clear hz
            refine sat_call (hp28 hx8 (by (try clear h); subst_vars; rfl) _) ?_
            conv => arg 1; cbv
            replace h := bif_cases h
            rcases h with ⟨hb9, h⟩ | ⟨hb9, h⟩
            · refine sat_brt (by first | exact hb9 | ((try clear h); subst_vars; first | exact hb9 | rfl)) ?_
              conv => arg 1; cbv
              refine sat_tick hΩ ?_
              conv => arg 1; cbv
              replace h := bif_cases h
              rcases h with ⟨hb10, h⟩ | ⟨hb10, h⟩
              · refine sat_brt (by first | exact hb10 | ((try clear h); subst_vars; first | exact hb10 | rfl)) ?_
                conv => arg 1; cbv
                refine sat_tick hΩ ?_
                conv => arg 1; cbv
                replace h := bif_cases h
                rcases h with ⟨hb11, h⟩ | ⟨hb11, h⟩
                · refine sat_brt (by first | exact hb11 | ((try clear h); subst_vars; first | exact hb11 | rfl)) ?_
                  conv => arg 1; cbv
                  obtain rfl := Option.some.inj h
                  subst_vars
                  first | exact hk | (simp only [ln_set] at hk ⊢; exact hk)
                · refine sat_brf (by first | exact hb11 | ((try clear h); subst_vars; first | exact hb11 | rfl)) ?_
                  conv => arg 1; cbv
                  obtain rfl := Option.some.inj h
                  subst_vars
                  first | exact hk | (simp only [ln_set] at hk ⊢; exact hk)
              · refine sat_brf (by first | exact hb10 | ((try clear h); subst_vars; first | exact hb10 | rfl)) ?_
                conv => arg 1; cbv
                refine sat_tick hΩ ?_
                conv => arg 1; cbv
                obtain rfl := Option.some.inj h
                subst_vars
                first | exact hk | (simp only [ln_set] at hk ⊢; exact hk)
            · refine sat_brf (by first | exact hb9 | ((try clear h); subst_vars; first | exact hb9 | rfl)) ?_
              conv => arg 1; cbv
              refine sat_tick hΩ ?_
              conv => arg 1; cbv
              refine sat_tick hΩ ?_
              conv => arg 1; cbv
              obtain rfl := Option.some.inj h
              subst_vars
              first | exact hk | (simp only [ln_set] at hk ⊢; exact hk)
          · refine sat_brf (by first | exact hb6 | ((try clear h); subst_vars; first | exact hb6 | rfl)) ?_
            conv => arg 1; cbv
            refine sat_tick hΩ ?_
            conv => arg 1; cbv
            refine sat_tick hΩ ?_
            conv => arg 1; cbv
            obtain rfl := Option.some.inj h
            subst_vars
            first | exact hk | (simp only [ln_set] at hk ⊢; exact hk)
        · refine sat_brf (by first | exact hb3 | ((try clear h); subst_vars; first | exact hb3 | rfl)) ?_
          conv => arg 1; cbv
          refine sat_tick hΩ ?_
          conv => arg 1; cbv
          refine sat_tick hΩ ?_
          conv => arg 1; cbv
          refine sat_tick hΩ ?_
          conv => arg 1; cbv
          obtain rfl := Option.some.inj h
          subst_vars
          first | exact hk | (simp only [ln_set] at hk ⊢; exact hk)
      · refine sat_brf (by first | exact hb2 | ((try clear h); subst_vars; first | exact hb2 | rfl)) ?_
        conv => arg 1; cbv
        refine sat_tick hΩ ?_
        conv => arg 1; cbv
        refine sat_tick hΩ ?_
        conv => arg 1; cbv
        refine sat_tick hΩ ?_
        conv => arg 1; cbv
        obtain rfl := Option.some.inj h
        subst_vars
        first | exact hk | (simp only [ln_set] at hk ⊢; exact hk)
    · refine sat_brf (by first | exact hb1 | ((try clear h); subst_vars; first | exact hb1 | rfl)) ?_
      conv => arg 1; cbv
      refine sat_tick hΩ ?_
      conv => arg 1; cbv
      refine sat_tick hΩ ?_
      conv => arg 1; cbv
      refine sat_tick hΩ ?_
      conv => arg 1; cbv
      refine sat_tick hΩ ?_
      conv => arg 1; cbv
      obtain rfl := Option.some.inj h
      subst_vars
      first | exact hk | (simp only [ln_set] at hk ⊢; exact hk)
  · clear hq13
    obtain ⟨i12, hqq⟩ : ∃ x, x = q := ⟨_, rfl⟩
    subst hqq
    try dsimp only at h
    conv => arg 1; cbv
    obtain rfl := Option.some.inj h
    subst_vars
    exact sat_pure rfl
theorem okr27 {Ω : Om} {E : Enc} (hΩ : real (call S) = Ω) (hE : theEnc = E) : ∀ fu,
    (∀ {a0 : Sl Value} {a1 : Sl Value} {r : Bool}, P27 fu a0 a1 = some r → ∀ {args : List PV}, [PV.d (.sl (E.L_Value a0.l) (E.X_Value a0.x)), PV.d (.sl (E.L_Value a1.l) (E.X_Value a1.x))] = args → ∀ (st : St), Sat (Ω.cf 27 args st) (fun q => q = (PV.d (.bool r), st))) ∧
    (∀ {a0 : Sl Field} {a1 : Sl Field} {r : Bool}, P28 fu a0 a1 = some r → ∀ {args : List PV}, [PV.d (.sl (E.L_Field a0.l) (E.X_Field a0.x)), PV.d (.sl (E.L_Field a1.l) (E.X_Field a1.x))] = args → ∀ (st : St), Sat (Ω.cf 28 args st) (fun q => q = (PV.d (.bool r), st))) ∧
    (∀ {a0 : Field} {a1 : Field} {r : Bool}, P51 fu a0 a1 = some r → ∀ {args : List PV}, [pv_Field E a0, pv_Field E a1] = args → ∀ (st : St), Sat (Ω.cf 51 args st) (fun q => q = (PV.d (.bool r), st))) ∧
    (∀ {a0 : Value} {a1 : Value} {r : Bool}, P8 fu a0 a1 = some r → ∀ {args : List PV}, [pv_Value E a0, pv_Value E a1] = args → ∀ (st : St), Sat (Ω.cf 8 args st) (fun q => q = (PV.d (.bool r), st))) := by
  intro fu
  induction fu with
  | zero => exact ⟨(fun h => (by cases h)), (fun h => (by cases h)), (fun h => (by cases h)), (fun h => (by cases h))⟩
  | succ fu ih =>
    obtain ⟨i27, i28, i51, i8⟩ := ih
    exact ⟨(fun h => @fun args ha st => okb27 (fu := fu) hΩ hE i27 i28 i51 i8 h ha st), (fun h => @fun args ha st => okb28 (fu := fu) hΩ hE i27 i28 i51 i8 h ha st), (fun h => @fun args ha st => okb51 (fu := fu) hΩ hE i27 i28 i51 i8 h ha st), (fun h => @fun args ha st => okb8 (fu := fu) hΩ hE i27 i28 i51 i8 h ha st)⟩
theorem ok27 {Ω : Om} {E : Enc} (hΩ : real (call S) = Ω) (hE : theEnc = E) {fu : Nat} : ∀ {a0 : Sl Value} {a1 : Sl Value} {r : Bool}, P27 fu a0 a1 = some r → ∀ {args : List PV}, [PV.d (.sl (E.L_Value a0.l) (E.X_Value a0.x)), PV.d (.sl (E.L_Value a1.l) (E.X_Value a1.x))] = args → ∀ (st : St), Sat (Ω.cf 27 args st) (fun q => q = (PV.d (.bool r), st)) := (okr27 hΩ hE fu).1
theorem ok28 {Ω : Om} {E : Enc} (hΩ : real (call S) = Ω) (hE : theEnc = E) {fu : Nat} : ∀ {a0 : Sl Field} {a1 : Sl Field} {r : Bool}, P28 fu a0 a1 = some r → ∀ {args : List PV}, [PV.d (.sl (E.L_Field a0.l) (E.X_Field a0.x)), PV.d (.sl (E.L_Field a1.l) (E.X_Field a1.x))] = args → ∀ (st : St), Sat (Ω.cf 28 args st) (fun q => q = (PV.d (.bool r), st)) := (okr27 hΩ hE fu).2.1
theorem ok51 {Ω : Om} {E : Enc} (hΩ : real (call S) = Ω) (hE : theEnc = E) {fu : Nat} : ∀ {a0 : Field} {a1 : Field} {r : Bool}, P51 fu a0 a1 = some r → ∀ {args : List PV}, [pv_Field E a0, pv_Field E a1] = args → ∀ (st : St), Sat (Ω.cf 51 args st) (fun q => q = (PV.d (.bool r), st)) := (okr27 hΩ hE fu).2.2.1
theorem ok8 {Ω : Om} {E : Enc} (hΩ : real (call S) = Ω) (hE : theEnc = E) {fu : Nat} : ∀ {a0 : Value} {a1 : Value} {r : Bool}, P8 fu a0 a1 = some r → ∀ {args : List PV}, [pv_Value E a0, pv_Value E a1] = args → ∀ (st : St), Sat (Ω.cf 8 args st) (fun q => q = (PV.d (.bool r), st)) := (okr27 hΩ hE fu).2.2.2
theorem ok10 {Ω : Om} {E : Enc} (hΩ : real (call S) = Ω) (hE : theEnc = E) {fu : Nat} {r : Bool} (h : P10 fu = some r) {args : List PV} (ha : [] = args) (st : St) :
    Sat (Ω.cf 10 args st) (fun q => q = (PV.d (.bool r), st)) := by
  subst ha
  subst hΩ
  obtain rfl := Option.some.inj h
  exact ⟨_, closed_call (S := S) (f := 10) rfl st, rfl⟩
set_option maxHeartbeats 4000000 in
theorem ok3 {Ω : Om} {E : Enc} (hΩ : real (call S) = Ω) (hE : theEnc = E) {fu : Nat} {a0 : Sl Field} {a1 : ByteArray} {a2 : ByteArray} {r : Bool} (h : P3 fu a0 a1 a2 = some r) {args : List PV} (ha : [PV.d (.sl (E.L_Field a0.l) (E.X_Field a0.x)), PV.d (.str a1), PV.d (.str a2)] = args) (st : St) :
    Sat (Ω.cf 3 args st) (fun q => q = (PV.d (.bool r), st)) := by
  subst ha
  rcases a0 with ⟨a0_l, a0_x⟩
  rw [cf_body hΩ (f := 3) (fn := Try.f3) (x := c3) rfl rfl c3_ok rfl rfl rfl]
  unfold P3 at h
  try dsimp only at h
  conv => arg 1; cbv
  obtain ⟨⟨r1_l, r1_x⟩, hx2, hz⟩ := Option.bind_eq_some_iff.1 h
  clear h
  have h := hz
  clear hz
  try dsimp only at h
  refine sat_call (ok7 hΩ hE hx2 (by (try clear h); subst_vars; rfl) _) ?_
  conv => arg 1; cbv
  obtain ⟨⟨r3_Kind, r3_N, r3_S, ⟨r3_L_l, r3_L_x⟩, ⟨r3_F_l, r3_F_x⟩, r3_Elem, r3_Key, r3_HasKey⟩, hx4, hz⟩ := Option.bind_eq_some_iff.1 h
  clear h
  have h := hz
  clear hz
  try dsimp only at h
  refine sat_call (ok9 hΩ hE hx4 (by (try clear h); subst_vars; rfl) _) ?_
  conv => arg 1; cbv
  refine sat_true (same_ok hΩ _) ?_
  conv => arg 1; cbv
  obtain ⟨r5, hx6, hz⟩ := Option.bind_eq_some_iff.1 h
  clear h
  have h := hz
  clear hz
  refine sat_call (ok8 hΩ hE hx6 (by (try clear h); subst_vars; rfl) _) ?_
  conv => arg 1; cbv
  refine sat_true (same_ok hΩ _) ?_
  conv => arg 1; cbv
  refine sat_in hΩ ?_
  conv => arg 1; cbv
  replace h := bif_cases h
  rcases h with ⟨hb7, h⟩ | ⟨hb7, h⟩
  · refine sat_brt (by first | exact hb7 | ((try clear h); subst_vars; first | exact hb7 | rfl)) ?_
    conv => arg 1; cbv
    obtain rfl := Option.some.inj h
    subst_vars
    exact sat_pure rfl
  · refine sat_brf (by first | exact hb7 | ((try clear h); subst_vars; first | exact hb7 | rfl)) ?_
    conv => arg 1; cbv
    obtain ⟨q, hq21, hz⟩ := Option.bind_eq_some_iff.1 h
    clear h
    have h := hz
    clear hz
    refine sat_grp hΩ ((fun (q : Bool) => (match q with | i20 => ([(0, PV.d (.sl (E.L_Field a0_l) (E.X_Field a0_x))), (1, PV.d (.str a1)), (2, PV.d (.str a2)), (6, PV.d (.bool i20)), (7, PV.ptr 0 0 0), (8, PV.d (.sl (E.L_Field r1_l) (E.X_Field r1_x)))], ([X.Obj.box 27 [.d (.int .u8 3), .d (.int .i64 0), .d (.str (⟨#[110, 101, 119]⟩ : ByteArray)), .d (.sl [] (some [])), .d (.sl [] (some [])), .d (.int .u8 0), .d (.str ByteArray.empty), .d (.bool false)]] : List X.Obj) :: st))) q) (fun k hk => ?_) ?_
    · clear h
      have h := hq21
      clear hq21
      conv => arg 1; cbv
      replace h := bif_cases h
      rcases h with ⟨hb8, h⟩ | ⟨hb8, h⟩
      · refine sat_brt (by first | exact hb8 | ((try clear h); subst_vars; first | exact hb8 | rfl)) ?_
        conv => arg 1; cbv
        obtain ⟨⟨r9_Kind, r9_N, r9_S, ⟨r9_L_l, r9_L_x⟩, ⟨r9_F_l, r9_F_x⟩, r9_Elem, r9_Key, r9_HasKey⟩, hx10, hz⟩ := Option.bind_eq_some_iff.1 h
        clear h
        have h := hz
        clear hz
        try dsimp only at h
        refine sat_call (ok9 hΩ hE hx10 (by (try clear h); subst_vars; rfl) _) ?_
        conv => arg 1; cbv
        obtain ⟨⟨r11_Kind, r11_N, r11_S, ⟨r11_L_l, r11_L_x⟩, ⟨r11_F_l, r11_F_x⟩, r11_Elem, r11_Key, r11_HasKey⟩, hx12, hz⟩ := Option.bind_eq_some_iff.1 h
        clear h
        have h := hz
        clear hz
        try dsimp only at h
        refine sat_call (ok9 hΩ hE hx12 (by (try clear h); subst_vars; rfl) _) ?_
        conv => arg 1; cbv
        obtain ⟨r13, hx14, hz⟩ := Option.bind_eq_some_iff.1 h
        clear h
        have h := hz
        clear hz
        refine sat_call (ok8 hΩ hE hx14 (by (try clear h); subst_vars; rfl) _) ?_
        conv => arg 1; cbv
        refine sat_tick hΩ ?_
        conv => arg 1; cbv
        replace h := bif_cases h
        rcases h with ⟨hb15, h⟩ | ⟨hb15, h⟩
        · refine sat_brt (by first | exact hb15 | ((try clear h); subst_vars; first | exact hb15 | rfl)) ?_
          conv => arg 1; cbv
          obtain ⟨r16, hx17, hz⟩ := Option.bind_eq_some_iff.1 h
          clear h
          have h := hz
          clear hz
          refine sat_call (ok10 hΩ hE hx17 (by (try clear h); subst_vars; rfl) _) ?_
          conv => arg 1; cbv
          obtain rfl := Option.some.inj h
          subst_vars
          first | exact hk | (simp only [ln_set] at hk ⊢; exact hk)
        · refine sat_brf (by first | exact hb15 | ((try clear h); subst_vars; first | exact hb15 | rfl)) ?_
          conv => arg 1; cbv
          obtain rfl := Option.some.inj h
          subst_vars
          first | exact hk | (simp only [ln_set] at hk ⊢; exact hk)
      · refine sat_brf (by first | exact hb8 | ((try clear h); subst_vars; first | exact hb8 | rfl)) ?_
        conv => arg 1; cbv
        refine sat_tick hΩ ?_
        conv => arg 1; cbv
        obtain ⟨r18, hx19, hz⟩ := Option.bind_eq_some_iff.1 h
        clear h
        have h := hz
        clear hz
        refine sat_call (ok10 hΩ hE hx19 (by (try clear h); subst_vars; rfl) _) ?_
        conv => arg 1; cbv
        obtain rfl := Option.some.inj h
        subst_vars
        first | exact hk | (simp only [ln_set] at hk ⊢; exact hk)
    · clear hq21
      obtain ⟨i20, hqq⟩ : ∃ x, x = q := ⟨_, rfl⟩
      subst hqq
      try dsimp only at h
      conv => arg 1; cbv
      obtain rfl := Option.some.inj h
      subst_vars
      exact sat_pure rfl
end Go.Proofs.Ytipkggkbldgmjaa
