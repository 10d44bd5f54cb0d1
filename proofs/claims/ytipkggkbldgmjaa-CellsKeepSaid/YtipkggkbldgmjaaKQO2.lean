/- The interpreter computes just these functions: printed by a small program. -/
import Derived.Test.YtipkggkbldgmjaaKQO1
namespace Go.Proofs.Ytipkggkbldgmjaa
open Go Go.X
set_option linter.unusedVariables false
set_option linter.unusedSimpArgs false
set_option maxRecDepth 100000
set_option maxHeartbeats 4000000 in
theorem ok69 {Ω : Om} {E : Enc} (hΩ : real (call S) = Ω) (hE : theEnc = E) {fu : Nat} {a0 : Sl Value} {r : (List Value)} (h : P69 fu a0 = some r) {args : List PV} (ha : [PV.d (.sl (E.L_Value a0.l) (E.X_Value a0.x))] = args) {st : St} (hH : X.hasL st 0 = true) {n : Int} (hn : ln r = n) :
    Sat (Ω.cf 69 args st) (fun q => q = (PV.row 0 (X.numO st 0) n, X.addO st 0 (X.Obj.row 27 8 (E.L_Value r) true none))) := by
  subst ha
  rcases a0 with ⟨a0_l, a0_x⟩
  rw [cf_body hΩ (f := 69) (fn := Try.f69) (x := c69) rfl rfl c69_ok rfl rfl]
  unfold P69 at h
  try dsimp only at h
  conv => arg 1; cbv
  refine sat_nil hΩ (ro_Value hE) fun l1 hl2 => ?_
  conv => arg 1; cbv
  refine sat_in hΩ ?_
  conv => arg 1; cbv
  replace h := bif_cases h
  rcases h with ⟨hb3, h⟩ | ⟨hb3, h⟩
  · refine sat_brt (len_zero hΩ (ro_Value hE) (l := a0_l) hb3 (by first | rfl | ((try clear h); subst_vars; rfl))) ?_
    conv => arg 1; cbv
    obtain ⟨ha16, hb17⟩ := agree_some h
    clear h
    refine sat_both hΩ ?_ ?_
    · clear hb17
      have h := ha16
      clear ha16
      conv => arg 1; cbv
      refine sat_nil hΩ (ro_Value hE) fun l4 hl5 => ?_
      conv => arg 1; cbv
      refine sat_addfar' hΩ hH fun kk st2 hk2 hs2 => ?_
      conv => arg 1; cbv
      obtain rfl := Option.some.inj h
      subst_vars
      exact sat_pure rfl
    · clear ha16
      have h := hb17
      clear hb17
      conv => arg 1; cbv
      obtain ⟨q, hq15, hz⟩ := Option.bind_eq_some_iff.1 h
      clear h
      have h := hz
      clear hz
      refine sat_grp hΩ ((fun (q : (List Value)) => (match q with | l14 => ([(0, PV.d (.sl (E.L_Value a0_l) (E.X_Value a0_x))), (2, PV.row 0 1 (ln l14))], ([X.Obj.row 27 8 (E.L_Value l1) true none, X.Obj.row 27 8 (E.L_Value l14) true none] : List X.Obj) :: st))) q) (fun k hk => ?_) ?_
      · clear h
        have h := hq15
        clear hq15
        conv => arg 1; cbv
        refine sat_nil hΩ (ro_Value hE) fun l6 hl7 => ?_
        conv => arg 1; cbv
        refine sat_true (ieq_ok hΩ _) ?_
        conv => arg 1; cbv
        refine sat_true (fits_l hΩ (ro_Value hE) a0_l (by first | rfl | ((try clear h); subst_vars; rfl))) ?_
        conv => arg 1; cbv
        refine sat_true (len_ok hΩ (ro_Value hE) ([] : List Value) (by first | rfl | ((try clear h); subst_vars; rfl) | ((try clear h); subst_vars; simp only [ln_set])) (by first | rfl | ((try clear h); subst_vars; rfl) | ((try clear h); subst_vars; simp only [ln_set]))) ?_
        conv => arg 1; cbv
        replace h := bif_cases h
        rcases h with ⟨hb8, h⟩ | ⟨hb8, h⟩
        · refine sat_brt (len_zero hΩ (ro_Value hE) (l := a0_l) hb8 (by first | rfl | ((try clear h); subst_vars; rfl))) ?_
          conv => arg 1; cbv
          obtain rfl := Option.some.inj h
          subst_vars
          first | exact hk | (simp only [ln_set] at hk ⊢; exact hk)
        · refine sat_brf (len_zero hΩ (ro_Value hE) (l := a0_l) hb8 (by first | rfl | ((try clear h); subst_vars; rfl))) ?_
          conv => arg 1; cbv
          refine sat_cat hΩ (ro_Value hE) ([] : List Value) a0_l (by first | rfl | ((try clear h); subst_vars; rfl)) (by first | rfl | ((try clear h); subst_vars; rfl)) fun l9 hl10 n11 hn12 => ?_
          conv => arg 1; cbv
          replace h := bif_some h
          obtain ⟨hb13, h⟩ := h
          refine sat_true (by first | exact hb13 | ((try clear h); subst_vars; first | exact hb13 | rfl)) ?_
          conv => arg 1; cbv
          obtain rfl := Option.some.inj h
          subst_vars
          first | exact hk | (simp only [ln_set] at hk ⊢; exact hk)
      · clear hq15
        obtain ⟨l14, hqq⟩ : ∃ x, x = q := ⟨_, rfl⟩
        subst hqq
        try dsimp only at h
        obtain ⟨ln_l14, hln_l14⟩ : ∃ n, ln l14 = n := ⟨_, rfl⟩
        simp only [hln_l14]
        conv => arg 1; cbv
        refine sat_addfar' hΩ hH fun kk st2 hk2 hs2 => ?_
        conv => arg 1; cbv
        obtain rfl := Option.some.inj h
        subst_vars
        exact sat_pure rfl
  · refine sat_brf (len_zero hΩ (ro_Value hE) (l := a0_l) hb3 (by first | rfl | ((try clear h); subst_vars; rfl))) ?_
    conv => arg 1; cbv
    refine sat_in hΩ ?_
    conv => arg 1; cbv
    obtain ⟨q, hq27, hz⟩ := Option.bind_eq_some_iff.1 h
    clear h
    have h := hz
    clear hz
    refine sat_grp hΩ ((fun (q : (List Value)) => (match q with | l26 => ([(0, PV.d (.sl (E.L_Value a0_l) (E.X_Value a0_x))), (2, PV.row 0 1 (ln l26))], ([X.Obj.row 27 8 (E.L_Value l1) true none, X.Obj.row 27 8 (E.L_Value l26) true none] : List X.Obj) :: st))) q) (fun k hk => ?_) ?_
    · clear h
      have h := hq27
      clear hq27
      conv => arg 1; cbv
      refine sat_nil hΩ (ro_Value hE) fun l18 hl19 => ?_
      conv => arg 1; cbv
      refine sat_true (ieq_ok hΩ _) ?_
      conv => arg 1; cbv
      refine sat_true (fits_l hΩ (ro_Value hE) a0_l (by first | rfl | ((try clear h); subst_vars; rfl))) ?_
      conv => arg 1; cbv
      refine sat_true (len_ok hΩ (ro_Value hE) ([] : List Value) (by first | rfl | ((try clear h); subst_vars; rfl) | ((try clear h); subst_vars; simp only [ln_set])) (by first | rfl | ((try clear h); subst_vars; rfl) | ((try clear h); subst_vars; simp only [ln_set]))) ?_
      conv => arg 1; cbv
      replace h := bif_cases h
      rcases h with ⟨hb20, h⟩ | ⟨hb20, h⟩
      · refine sat_brt (len_zero hΩ (ro_Value hE) (l := a0_l) hb20 (by first | rfl | ((try clear h); subst_vars; rfl))) ?_
        conv => arg 1; cbv
        obtain rfl := Option.some.inj h
        subst_vars
        first | exact hk | (simp only [ln_set] at hk ⊢; exact hk)
      · refine sat_brf (len_zero hΩ (ro_Value hE) (l := a0_l) hb20 (by first | rfl | ((try clear h); subst_vars; rfl))) ?_
        conv => arg 1; cbv
        refine sat_cat hΩ (ro_Value hE) ([] : List Value) a0_l (by first | rfl | ((try clear h); subst_vars; rfl)) (by first | rfl | ((try clear h); subst_vars; rfl)) fun l21 hl22 n23 hn24 => ?_
        conv => arg 1; cbv
        replace h := bif_some h
        obtain ⟨hb25, h⟩ := h
        refine sat_true (by first | exact hb25 | ((try clear h); subst_vars; first | exact hb25 | rfl)) ?_
        conv => arg 1; cbv
        obtain rfl := Option.some.inj h
        subst_vars
        first | exact hk | (simp only [ln_set] at hk ⊢; exact hk)
    · clear hq27
      obtain ⟨l26, hqq⟩ : ∃ x, x = q := ⟨_, rfl⟩
      subst hqq
      try dsimp only at h
      obtain ⟨ln_l26, hln_l26⟩ : ∃ n, ln l26 = n := ⟨_, rfl⟩
      simp only [hln_l26]
      conv => arg 1; cbv
      refine sat_addfar' hΩ hH fun kk st2 hk2 hs2 => ?_
      conv => arg 1; cbv
      obtain rfl := Option.some.inj h
      subst_vars
      exact sat_pure rfl
set_option maxHeartbeats 4000000 in
theorem ok48 {Ω : Om} {E : Enc} (hΩ : real (call S) = Ω) (hE : theEnc = E) {fu : Nat} {a0 : Sl Field} {r : (List Field)} (h : P48 fu a0 = some r) {args : List PV} (ha : [PV.d (.sl (E.L_Field a0.l) (E.X_Field a0.x))] = args) {st : St} (hH : X.hasL st 0 = true) {n : Int} (hn : ln r = n) :
    Sat (Ω.cf 48 args st) (fun q => q = (PV.row 0 (X.numO st 0) n, X.addO st 0 (X.Obj.row 49 9 (E.L_Field r) true none))) := by
  subst ha
  rcases a0 with ⟨a0_l, a0_x⟩
  rw [cf_body hΩ (f := 48) (fn := Try.f48) (x := c48) rfl rfl c48_ok rfl rfl]
  unfold P48 at h
  try dsimp only at h
  conv => arg 1; cbv
  refine sat_nil hΩ (ro_Field hE) fun l1 hl2 => ?_
  conv => arg 1; cbv
  refine sat_in hΩ ?_
  conv => arg 1; cbv
  replace h := bif_cases h
  rcases h with ⟨hb3, h⟩ | ⟨hb3, h⟩
  · refine sat_brt (len_zero hΩ (ro_Field hE) (l := a0_l) hb3 (by first | rfl | ((try clear h); subst_vars; rfl))) ?_
    conv => arg 1; cbv
    obtain ⟨ha16, hb17⟩ := agree_some h
    clear h
    refine sat_both hΩ ?_ ?_
    · clear hb17
      have h := ha16
      clear ha16
      conv => arg 1; cbv
      refine sat_nil hΩ (ro_Field hE) fun l4 hl5 => ?_
      conv => arg 1; cbv
      refine sat_addfar' hΩ hH fun kk st2 hk2 hs2 => ?_
      conv => arg 1; cbv
      obtain rfl := Option.some.inj h
      subst_vars
      exact sat_pure rfl
    · clear ha16
      have h := hb17
      clear hb17
      conv => arg 1; cbv
      obtain ⟨q, hq15, hz⟩ := Option.bind_eq_some_iff.1 h
      clear h
      have h := hz
      clear hz
      refine sat_grp hΩ ((fun (q : (List Field)) => (match q with | l14 => ([(0, PV.d (.sl (E.L_Field a0_l) (E.X_Field a0_x))), (2, PV.row 0 1 (ln l14))], ([X.Obj.row 49 9 (E.L_Field l1) true none, X.Obj.row 49 9 (E.L_Field l14) true none] : List X.Obj) :: st))) q) (fun k hk => ?_) ?_
      · clear h
        have h := hq15
        clear hq15
        conv => arg 1; cbv
        refine sat_nil hΩ (ro_Field hE) fun l6 hl7 => ?_
        conv => arg 1; cbv
        refine sat_true (ieq_ok hΩ _) ?_
        conv => arg 1; cbv
        refine sat_true (fits_l hΩ (ro_Field hE) a0_l (by first | rfl | ((try clear h); subst_vars; rfl))) ?_
        conv => arg 1; cbv
        refine sat_true (len_ok hΩ (ro_Field hE) ([] : List Field) (by first | rfl | ((try clear h); subst_vars; rfl) | ((try clear h); subst_vars; simp only [ln_set])) (by first | rfl | ((try clear h); subst_vars; rfl) | ((try clear h); subst_vars; simp only [ln_set]))) ?_
        conv => arg 1; cbv
        replace h := bif_cases h
        rcases h with ⟨hb8, h⟩ | ⟨hb8, h⟩
        · refine sat_brt (len_zero hΩ (ro_Field hE) (l := a0_l) hb8 (by first | rfl | ((try clear h); subst_vars; rfl))) ?_
          conv => arg 1; cbv
          obtain rfl := Option.some.inj h
          subst_vars
          first | exact hk | (simp only [ln_set] at hk ⊢; exact hk)
        · refine sat_brf (len_zero hΩ (ro_Field hE) (l := a0_l) hb8 (by first | rfl | ((try clear h); subst_vars; rfl))) ?_
          conv => arg 1; cbv
          refine sat_cat hΩ (ro_Field hE) ([] : List Field) a0_l (by first | rfl | ((try clear h); subst_vars; rfl)) (by first | rfl | ((try clear h); subst_vars; rfl)) fun l9 hl10 n11 hn12 => ?_
          conv => arg 1; cbv
          replace h := bif_some h
          obtain ⟨hb13, h⟩ := h
          refine sat_true (by first | exact hb13 | ((try clear h); subst_vars; first | exact hb13 | rfl)) ?_
          conv => arg 1; cbv
          obtain rfl := Option.some.inj h
          subst_vars
          first | exact hk | (simp only [ln_set] at hk ⊢; exact hk)
      · clear hq15
        obtain ⟨l14, hqq⟩ : ∃ x, x = q := ⟨_, rfl⟩
        subst hqq
        try dsimp only at h
        obtain ⟨ln_l14, hln_l14⟩ : ∃ n, ln l14 = n := ⟨_, rfl⟩
        simp only [hln_l14]
        conv => arg 1; cbv
        refine sat_addfar' hΩ hH fun kk st2 hk2 hs2 => ?_
        conv => arg 1; cbv
        obtain rfl := Option.some.inj h
        subst_vars
        exact sat_pure rfl
  · refine sat_brf (len_zero hΩ (ro_Field hE) (l := a0_l) hb3 (by first | rfl | ((try clear h); subst_vars; rfl))) ?_
    conv => arg 1; cbv
    refine sat_in hΩ ?_
    conv => arg 1; cbv
    obtain ⟨q, hq27, hz⟩ := Option.bind_eq_some_iff.1 h
    clear h
    have h := hz
    clear hz
    refine sat_grp hΩ ((fun (q : (List Field)) => (match q with | l26 => ([(0, PV.d (.sl (E.L_Field a0_l) (E.X_Field a0_x))), (2, PV.row 0 1 (ln l26))], ([X.Obj.row 49 9 (E.L_Field l1) true none, X.Obj.row 49 9 (E.L_Field l26) true none] : List X.Obj) :: st))) q) (fun k hk => ?_) ?_
    · clear h
      have h := hq27
      clear hq27
      conv => arg 1; cbv
      refine sat_nil hΩ (ro_Field hE) fun l18 hl19 => ?_
      conv => arg 1; cbv
      refine sat_true (ieq_ok hΩ _) ?_
      conv => arg 1; cbv
      refine sat_true (fits_l hΩ (ro_Field hE) a0_l (by first | rfl | ((try clear h); subst_vars; rfl))) ?_
      conv => arg 1; cbv
      refine sat_true (len_ok hΩ (ro_Field hE) ([] : List Field) (by first | rfl | ((try clear h); subst_vars; rfl) | ((try clear h); subst_vars; simp only [ln_set])) (by first | rfl | ((try clear h); subst_vars; rfl) | ((try clear h); subst_vars; simp only [ln_set]))) ?_
      conv => arg 1; cbv
      replace h := bif_cases h
      rcases h with ⟨hb20, h⟩ | ⟨hb20, h⟩
      · refine sat_brt (len_zero hΩ (ro_Field hE) (l := a0_l) hb20 (by first | rfl | ((try clear h); subst_vars; rfl))) ?_
        conv => arg 1; cbv
        obtain rfl := Option.some.inj h
        subst_vars
        first | exact hk | (simp only [ln_set] at hk ⊢; exact hk)
      · refine sat_brf (len_zero hΩ (ro_Field hE) (l := a0_l) hb20 (by first | rfl | ((try clear h); subst_vars; rfl))) ?_
        conv => arg 1; cbv
        refine sat_cat hΩ (ro_Field hE) ([] : List Field) a0_l (by first | rfl | ((try clear h); subst_vars; rfl)) (by first | rfl | ((try clear h); subst_vars; rfl)) fun l21 hl22 n23 hn24 => ?_
        conv => arg 1; cbv
        replace h := bif_some h
        obtain ⟨hb25, h⟩ := h
        refine sat_true (by first | exact hb25 | ((try clear h); subst_vars; first | exact hb25 | rfl)) ?_
        conv => arg 1; cbv
        obtain rfl := Option.some.inj h
        subst_vars
        first | exact hk | (simp only [ln_set] at hk ⊢; exact hk)
    · clear hq27
      obtain ⟨l26, hqq⟩ : ∃ x, x = q := ⟨_, rfl⟩
      subst hqq
      try dsimp only at h
      obtain ⟨ln_l26, hln_l26⟩ : ∃ n, ln l26 = n := ⟨_, rfl⟩
      simp only [hln_l26]
      conv => arg 1; cbv
      refine sat_addfar' hΩ hH fun kk st2 hk2 hs2 => ?_
      conv => arg 1; cbv
      obtain rfl := Option.some.inj h
      subst_vars
      exact sat_pure rfl
set_option maxHeartbeats 4000000 in
theorem ok70 {Ω : Om} {E : Enc} (hΩ : real (call S) = Ω) (hE : theEnc = E) {fu : Nat} {a0 : Sl Value} {r : (Sl Value)} (h : P70 fu a0 = some r) {args : List PV} (ha : [PV.d (.sl (E.L_Value a0.l) (E.X_Value a0.x))] = args) (st : St) :
    Sat (Ω.cf 70 args st) (fun q => q = (PV.d (.sl (E.L_Value r.l) (E.X_Value r.x)), st)) := by
  subst ha
  rcases a0 with ⟨a0_l, a0_x⟩
  rw [cf_body hΩ (f := 70) (fn := Try.f70) (x := c70) rfl rfl c70_ok rfl rfl]
  unfold P70 at h
  try dsimp only at h
  conv => arg 1; cbv
  refine sat_len hΩ (ro_Value hE) a0_l (by first | rfl | ((try clear h); subst_vars; rfl)) fun n1 hn2 => ?_
  conv => arg 1; cbv
  refine sat_len hΩ (ro_Value hE) a0_l (by first | rfl | ((try clear h); subst_vars; rfl)) fun n3 hn4 => ?_
  conv => arg 1; cbv
  refine sat_true (fits_x hΩ (ro_Value hE) a0_l a0_x (by first | rfl | ((try clear h); subst_vars; rfl)) (by first | rfl | ((try clear h); subst_vars; rfl))) ?_
  conv => arg 1; cbv
  refine sat_len hΩ (ro_Value hE) a0_l (by first | rfl | ((try clear h); subst_vars; rfl)) fun n5 hn6 => ?_
  conv => arg 1; cbv
  replace h := bif_some h
  obtain ⟨hb7, h⟩ := h
  refine sat_true (by first | exact hb7 | ((try clear h); subst_vars; first | exact hb7 | rfl)) ?_
  conv => arg 1; cbv
  replace h := bif_some h
  obtain ⟨hb8, h⟩ := h
  refine sat_true (by first | exact hb8 | ((try clear h); subst_vars; first | exact hb8 | rfl)) ?_
  conv => arg 1; cbv
  replace h := bif_some h
  obtain ⟨hb9, h⟩ := h
  refine sat_true (by first | exact hb9 | ((try clear h); subst_vars; first | exact hb9 | rfl)) ?_
  conv => arg 1; cbv
  replace h := bif_some h
  obtain ⟨hb10, h⟩ := h
  refine sat_true (by first | exact hb10 | ((try clear h); subst_vars; first | exact hb10 | rfl)) ?_
  conv => arg 1; cbv
  refine sat_cut hΩ (ro_Value hE) a0_l 0 (ln a0_l) (by first | rfl | ((try clear h); subst_vars; rfl)) (by first | rfl | ((try clear h); subst_vars; rfl)) (by first | rfl | ((try clear h); subst_vars; rfl)) fun l11 hl12 => ?_
  conv => arg 1; cbv
  refine sat_cut hΩ (ro_Value hE) a0_l (ln a0_l) (ln a0_l) (by first | rfl | ((try clear h); subst_vars; rfl)) (by first | rfl | ((try clear h); subst_vars; rfl)) (by first | rfl | ((try clear h); subst_vars; rfl)) fun l13 hl14 => ?_
  conv => arg 1; cbv
  obtain rfl := Option.some.inj h
  subst_vars
  exact sat_pure rfl
set_option maxHeartbeats 4000000 in
theorem ok49 {Ω : Om} {E : Enc} (hΩ : real (call S) = Ω) (hE : theEnc = E) {fu : Nat} {a0 : Sl Field} {r : (Sl Field)} (h : P49 fu a0 = some r) {args : List PV} (ha : [PV.d (.sl (E.L_Field a0.l) (E.X_Field a0.x))] = args) (st : St) :
    Sat (Ω.cf 49 args st) (fun q => q = (PV.d (.sl (E.L_Field r.l) (E.X_Field r.x)), st)) := by
  subst ha
  rcases a0 with ⟨a0_l, a0_x⟩
  rw [cf_body hΩ (f := 49) (fn := Try.f49) (x := c49) rfl rfl c49_ok rfl rfl]
  unfold P49 at h
  try dsimp only at h
  conv => arg 1; cbv
  refine sat_len hΩ (ro_Field hE) a0_l (by first | rfl | ((try clear h); subst_vars; rfl)) fun n1 hn2 => ?_
  conv => arg 1; cbv
  refine sat_len hΩ (ro_Field hE) a0_l (by first | rfl | ((try clear h); subst_vars; rfl)) fun n3 hn4 => ?_
  conv => arg 1; cbv
  refine sat_true (fits_x hΩ (ro_Field hE) a0_l a0_x (by first | rfl | ((try clear h); subst_vars; rfl)) (by first | rfl | ((try clear h); subst_vars; rfl))) ?_
  conv => arg 1; cbv
  refine sat_len hΩ (ro_Field hE) a0_l (by first | rfl | ((try clear h); subst_vars; rfl)) fun n5 hn6 => ?_
  conv => arg 1; cbv
  replace h := bif_some h
  obtain ⟨hb7, h⟩ := h
  refine sat_true (by first | exact hb7 | ((try clear h); subst_vars; first | exact hb7 | rfl)) ?_
  conv => arg 1; cbv
  replace h := bif_some h
  obtain ⟨hb8, h⟩ := h
  refine sat_true (by first | exact hb8 | ((try clear h); subst_vars; first | exact hb8 | rfl)) ?_
  conv => arg 1; cbv
  replace h := bif_some h
  obtain ⟨hb9, h⟩ := h
  refine sat_true (by first | exact hb9 | ((try clear h); subst_vars; first | exact hb9 | rfl)) ?_
  conv => arg 1; cbv
  replace h := bif_some h
  obtain ⟨hb10, h⟩ := h
  refine sat_true (by first | exact hb10 | ((try clear h); subst_vars; first | exact hb10 | rfl)) ?_
  conv => arg 1; cbv
  refine sat_cut hΩ (ro_Field hE) a0_l 0 (ln a0_l) (by first | rfl | ((try clear h); subst_vars; rfl)) (by first | rfl | ((try clear h); subst_vars; rfl)) (by first | rfl | ((try clear h); subst_vars; rfl)) fun l11 hl12 => ?_
  conv => arg 1; cbv
  refine sat_cut hΩ (ro_Field hE) a0_l (ln a0_l) (ln a0_l) (by first | rfl | ((try clear h); subst_vars; rfl)) (by first | rfl | ((try clear h); subst_vars; rfl)) (by first | rfl | ((try clear h); subst_vars; rfl)) fun l13 hl14 => ?_
  conv => arg 1; cbv
  obtain rfl := Option.some.inj h
  subst_vars
  exact sat_pure rfl
set_option maxHeartbeats 4000000 in
theorem okb24 {Ω : Om} {E : Enc} (hΩ : real (call S) = Ω) (hE : theEnc = E) {fu : Nat} {p24 : (Sl Field) → Option ((Sl Field))} (hp24 : ∀ {a0 : Sl Field} {r : (Sl Field)}, p24 a0 = some r → ∀ {args : List PV}, [PV.d (.sl (E.L_Field a0.l) (E.X_Field a0.x))] = args → ∀ (st : St), Sat (Ω.cf 24 args st) (fun q => q = (PV.d (.sl (E.L_Field r.l) (E.X_Field r.x)), st))) {p26 : Value → Option (Value)} (hp26 : ∀ {a0 : Value} {r : Value}, p26 a0 = some r → ∀ {args : List PV}, [pv_Value E a0] = args → ∀ (st : St), Sat (Ω.cf 26 args st) (fun q => q = (pv_Value E r, st))) {p50 : (Sl Value) → Option ((Sl Value))} (hp50 : ∀ {a0 : Sl Value} {r : (Sl Value)}, p50 a0 = some r → ∀ {args : List PV}, [PV.d (.sl (E.L_Value a0.l) (E.X_Value a0.x))] = args → ∀ (st : St), Sat (Ω.cf 50 args st) (fun q => q = (PV.d (.sl (E.L_Value r.l) (E.X_Value r.x)), st))) {a0 : Sl Field} {r : (Sl Field)} (h : Pb24 fu p24 p26 p50 a0 = some r) {args : List PV} (ha : [PV.d (.sl (E.L_Field a0.l) (E.X_Field a0.x))] = args) (st : St) :
    Sat (Ω.cf 24 args st) (fun q => q = (PV.d (.sl (E.L_Field r.l) (E.X_Field r.x)), st)) := by
  subst ha
  rcases a0 with ⟨a0_l, a0_x⟩
  rw [cf_body hΩ (f := 24) (fn := Try.f24) (x := c24) rfl rfl c24_ok rfl rfl]
  unfold Pb24 at h
  try dsimp only at h
  conv => arg 1; cbv
  obtain ⟨r2, hx1, hz⟩ := Option.bind_eq_some_iff.1 h
  clear h
  have h := hz
  clear hz
  obtain ⟨n3, hn4⟩ : ∃ n, ln r2 = n := ⟨_, rfl⟩
  refine sat_call (ok48 hΩ hE (st := ([] : List X.Obj) :: st) hx1 (by (try clear h); subst_vars; rfl) rfl hn4) ?_
  conv => arg 1; cbv
  obtain ⟨q, hl17, hz⟩ := Option.bind_eq_some_iff.1 h
  clear h
  have h := hz
  clear hz
  refine sat_loop hΩ (fun (a : (List Field) × Int) => (match a with | (l5, i6) => ([(0, PV.d (.sl (E.L_Field a0_l) (E.X_Field a0_x))), (2, PV.d (.sl [] (some []))), (3, PV.row 0 0 (ln l5)), (8, PV.d (.int .i64 n3)), (9, PV.d (.int .i64 i6))], ([X.Obj.row 49 9 (E.L_Field l5) true none] : List X.Obj) :: st))) (fun (q : ((List Field) × Int)) => (match q with | (o18, o19) => (.exit 0, [(0, PV.d (.sl (E.L_Field a0_l) (E.X_Field a0_x))), (2, PV.d (.sl [] (some []))), (3, PV.row 0 0 (ln o18)), (8, PV.d (.int .i64 n3)), (9, PV.d (.int .i64 o19))], ([X.Obj.row 49 9 (E.L_Field o18) true none] : List X.Obj) :: st))) (r2, 0) hl17 (by first | rfl | ((try clear h); subst_vars; rfl) | ((try clear h); subst_vars; simp only [ln_set])) ?_ ?_
  · clear h hl17
    rintro ⟨l5, i6⟩ q h
    unfold P24_s0 at h
    dsimp only at h
    obtain ⟨ln_l5, hln_l5⟩ : ∃ n, ln l5 = n := ⟨_, rfl⟩
    simp only [hln_l5]
    conv => arg 1; cbv
    refine sat_in hΩ ?_
    conv => arg 1; cbv
    replace h := bif_cases h
    rcases h with ⟨hb7, h⟩ | ⟨hb7, h⟩
    · refine sat_brt (by first | exact hb7 | ((try clear h); subst_vars; first | exact hb7 | rfl)) ?_
      conv => arg 1; cbv
      refine sat_true (len_ok hΩ (ro_Field hE) l5 (by first | rfl | ((try clear h); subst_vars; rfl) | ((try clear h); subst_vars; simp only [ln_set])) (by first | rfl | ((try clear h); subst_vars; rfl) | ((try clear h); subst_vars; simp only [ln_set]))) ?_
      conv => arg 1; cbv
      obtain ⟨⟨x8_Name, ⟨x8_Value__Kind, x8_Value__N, x8_Value__S, ⟨x8_Value__L_l, x8_Value__L_x⟩, ⟨x8_Value__F_l, x8_Value__F_x⟩, x8_Value__Elem, x8_Value__Key, x8_Value__HasKey⟩⟩, hx9, hz⟩ := Option.bind_eq_some_iff.1 h
      clear h
      have h := hz
      clear hz
      try dsimp only at h
      refine sat_bind (nth_ok hΩ (ro_Field hE) hx9 (by first | rfl | ((try clear h); subst_vars; rfl)) (by first | rfl | ((try clear h); subst_vars; rfl))) ?_
      conv => arg 1; cbv
      refine sat_true (len_ok hΩ (ro_Field hE) l5 (by first | rfl | ((try clear h); subst_vars; rfl) | ((try clear h); subst_vars; simp only [ln_set])) (by first | rfl | ((try clear h); subst_vars; rfl) | ((try clear h); subst_vars; simp only [ln_set]))) ?_
      conv => arg 1; cbv
      refine sat_bind (nth_ok hΩ (ro_Field hE) hx9 (by first | rfl | ((try clear h); subst_vars; rfl)) (by first | rfl | ((try clear h); subst_vars; rfl))) ?_
      conv => arg 1; cbv
      obtain ⟨⟨r10_Kind, r10_N, r10_S, ⟨r10_L_l, r10_L_x⟩, ⟨r10_F_l, r10_F_x⟩, r10_Elem, r10_Key, r10_HasKey⟩, hx11, hz⟩ := Option.bind_eq_some_iff.1 h
      clear h
      have h := hz
      clear hz
      try dsimp only at h
      refine sat_call (hp26 hx11 (by (try clear h); subst_vars; rfl) _) ?_
      conv => arg 1; cbv
      refine sat_true (len_ok hΩ (ro_Field hE) l5 (by first | rfl | ((try clear h); subst_vars; rfl) | ((try clear h); subst_vars; simp only [ln_set])) (by first | rfl | ((try clear h); subst_vars; rfl) | ((try clear h); subst_vars; simp only [ln_set]))) ?_
      conv => arg 1; cbv
      obtain ⟨⟨x12_Name, ⟨x12_Value__Kind, x12_Value__N, x12_Value__S, ⟨x12_Value__L_l, x12_Value__L_x⟩, ⟨x12_Value__F_l, x12_Value__F_x⟩, x12_Value__Elem, x12_Value__Key, x12_Value__HasKey⟩⟩, hx13, hz⟩ := Option.bind_eq_some_iff.1 h
      clear h
      have h := hz
      clear hz
      try dsimp only at h
      refine sat_bind (nth_ok hΩ (ro_Field hE) hx13 (by first | rfl | ((try clear h); subst_vars; rfl)) (by first | rfl | ((try clear h); subst_vars; rfl))) ?_
      conv => arg 1; cbv
      refine sat_true (len_ok hΩ (ro_Field hE) l5 (by first | rfl | ((try clear h); subst_vars; rfl) | ((try clear h); subst_vars; simp only [ln_set])) (by first | rfl | ((try clear h); subst_vars; rfl) | ((try clear h); subst_vars; simp only [ln_set]))) ?_
      conv => arg 1; cbv
      refine sat_bind (nth_ok hΩ (ro_Field hE) hx13 (by first | rfl | ((try clear h); subst_vars; rfl)) (by first | rfl | ((try clear h); subst_vars; rfl))) ?_
      conv => arg 1; cbv
      refine sat_set hΩ (ro_Field hE) l5 i6 (Field.mk x12_Name (Value.mk r10_Kind r10_N r10_S (Sl.mk r10_L_l r10_L_x) (Sl.mk r10_F_l r10_F_x) r10_Elem r10_Key r10_HasKey)) (by first | rfl | ((try clear h); subst_vars; rfl)) (by first | rfl | ((try clear h); subst_vars; rfl)) (by first | rfl | ((try clear h); subst_vars; rfl)) fun l14 hl15 => ?_
      conv => arg 1; cbv
      obtain rfl := Option.some.inj h
      subst_vars
      first | exact sat_pure ⟨rfl, rfl, rfl⟩ | (refine sat_pure ⟨rfl, ?_, ?_⟩ <;> first | rfl | (dsimp only; simp only [ln_set]; rfl))
    · refine sat_brf (by first | exact hb7 | ((try clear h); subst_vars; first | exact hb7 | rfl)) ?_
      conv => arg 1; cbv
      obtain rfl := Option.some.inj h
      subst_vars
      first | exact sat_pure (.inl ⟨⟨_, rfl⟩, rfl⟩) | (refine sat_pure (.inl ⟨⟨_, rfl⟩, ?_⟩); dsimp only; simp only [ln_set]; rfl)
  · clear hl17
    rcases q with ⟨o18, o19⟩
    dsimp only at h
    obtain ⟨ln_o18, hln_o18⟩ : ∃ n, ln o18 = n := ⟨_, rfl⟩
    simp only [hln_o18]
    conv => arg 1; cbv
    refine sat_true (len_ok hΩ (ro_Field hE) o18 (by first | rfl | ((try clear h); subst_vars; rfl) | ((try clear h); subst_vars; simp only [ln_set])) (by first | rfl | ((try clear h); subst_vars; rfl) | ((try clear h); subst_vars; simp only [ln_set]))) ?_
    conv => arg 1; cbv
    obtain ⟨⟨r20_l, r20_x⟩, hx21, hz⟩ := Option.bind_eq_some_iff.1 h
    clear h
    have h := hz
    clear hz
    try dsimp only at h
    refine sat_call (ok49 hΩ hE hx21 (by (try clear h); subst_vars; rfl) _) ?_
    conv => arg 1; cbv
    obtain rfl := Option.some.inj h
    subst_vars
    exact sat_pure rfl
set_option maxHeartbeats 4000000 in
theorem okb26 {Ω : Om} {E : Enc} (hΩ : real (call S) = Ω) (hE : theEnc = E) {fu : Nat} {p24 : (Sl Field) → Option ((Sl Field))} (hp24 : ∀ {a0 : Sl Field} {r : (Sl Field)}, p24 a0 = some r → ∀ {args : List PV}, [PV.d (.sl (E.L_Field a0.l) (E.X_Field a0.x))] = args → ∀ (st : St), Sat (Ω.cf 24 args st) (fun q => q = (PV.d (.sl (E.L_Field r.l) (E.X_Field r.x)), st))) {p26 : Value → Option (Value)} (hp26 : ∀ {a0 : Value} {r : Value}, p26 a0 = some r → ∀ {args : List PV}, [pv_Value E a0] = args → ∀ (st : St), Sat (Ω.cf 26 args st) (fun q => q = (pv_Value E r, st))) {p50 : (Sl Value) → Option ((Sl Value))} (hp50 : ∀ {a0 : Sl Value} {r : (Sl Value)}, p50 a0 = some r → ∀ {args : List PV}, [PV.d (.sl (E.L_Value a0.l) (E.X_Value a0.x))] = args → ∀ (st : St), Sat (Ω.cf 50 args st) (fun q => q = (PV.d (.sl (E.L_Value r.l) (E.X_Value r.x)), st))) {a0 : Value} {r : Value} (h : Pb26 fu p24 p26 p50 a0 = some r) {args : List PV} (ha : [pv_Value E a0] = args) (st : St) :
    Sat (Ω.cf 26 args st) (fun q => q = (pv_Value E r, st)) := by
  subst ha
  rcases a0 with ⟨a0_Kind, a0_N, a0_S, ⟨a0_L_l, a0_L_x⟩, ⟨a0_F_l, a0_F_x⟩, a0_Elem, a0_Key, a0_HasKey⟩
  rw [cf_body hΩ (f := 26) (fn := Try.f26) (x := c26) rfl rfl c26_ok rfl rfl]
  unfold Pb26 at h
  try dsimp only at h
  conv => arg 1; cbv
  obtain ⟨⟨r1_l, r1_x⟩, hx2, hz⟩ := Option.bind_eq_some_iff.1 h
  clear h
  have h := hz
  clear hz
  try dsimp only at h
  refine sat_call (hp50 hx2 (by (try clear h); subst_vars; rfl) _) ?_
  conv => arg 1; cbv
  refine sat_true (same_ok hΩ _) ?_
  conv => arg 1; cbv
  obtain ⟨⟨r3_l, r3_x⟩, hx4, hz⟩ := Option.bind_eq_some_iff.1 h
  clear h
  have h := hz
  clear hz
  try dsimp only at h
  refine sat_call (hp24 hx4 (by (try clear h); subst_vars; rfl) _) ?_
  conv => arg 1; cbv
  refine sat_true (same_ok hΩ _) ?_
  conv => arg 1; cbv
  obtain rfl := Option.some.inj h
  subst_vars
  exact sat_pure rfl
set_option maxHeartbeats 4000000 in
theorem okb50 {Ω : Om} {E : Enc} (hΩ : real (call S) = Ω) (hE : theEnc = E) {fu : Nat} {p24 : (Sl Field) → Option ((Sl Field))} (hp24 : ∀ {a0 : Sl Field} {r : (Sl Field)}, p24 a0 = some r → ∀ {args : List PV}, [PV.d (.sl (E.L_Field a0.l) (E.X_Field a0.x))] = args → ∀ (st : St), Sat (Ω.cf 24 args st) (fun q => q = (PV.d (.sl (E.L_Field r.l) (E.X_Field r.x)), st))) {p26 : Value → Option (Value)} (hp26 : ∀ {a0 : Value} {r : Value}, p26 a0 = some r → ∀ {args : List PV}, [pv_Value E a0] = args → ∀ (st : St), Sat (Ω.cf 26 args st) (fun q => q = (pv_Value E r, st))) {p50 : (Sl Value) → Option ((Sl Value))} (hp50 : ∀ {a0 : Sl Value} {r : (Sl Value)}, p50 a0 = some r → ∀ {args : List PV}, [PV.d (.sl (E.L_Value a0.l) (E.X_Value a0.x))] = args → ∀ (st : St), Sat (Ω.cf 50 args st) (fun q => q = (PV.d (.sl (E.L_Value r.l) (E.X_Value r.x)), st))) {a0 : Sl Value} {r : (Sl Value)} (h : Pb50 fu p24 p26 p50 a0 = some r) {args : List PV} (ha : [PV.d (.sl (E.L_Value a0.l) (E.X_Value a0.x))] = args) (st : St) :
    Sat (Ω.cf 50 args st) (fun q => q = (PV.d (.sl (E.L_Value r.l) (E.X_Value r.x)), st)) := by
  subst ha
  rcases a0 with ⟨a0_l, a0_x⟩
  rw [cf_body hΩ (f := 50) (fn := Try.f50) (x := c50) rfl rfl c50_ok rfl rfl]
  unfold Pb50 at h
  try dsimp only at h
  conv => arg 1; cbv
  obtain ⟨r2, hx1, hz⟩ := Option.bind_eq_some_iff.1 h
  clear h
  have h := hz
  clear hz
  obtain ⟨n3, hn4⟩ : ∃ n, ln r2 = n := ⟨_, rfl⟩
  refine sat_call (ok69 hΩ hE (st := ([] : List X.Obj) :: st) hx1 (by (try clear h); subst_vars; rfl) rfl hn4) ?_
  conv => arg 1; cbv
  obtain ⟨q, hl17, hz⟩ := Option.bind_eq_some_iff.1 h
  clear h
  have h := hz
  clear hz
  refine sat_loop hΩ (fun (a : (List Value) × Int) => (match a with | (l5, i6) => ([(0, PV.d (.sl (E.L_Value a0_l) (E.X_Value a0_x))), (2, PV.d (.sl [] (some []))), (3, PV.row 0 0 (ln l5)), (8, PV.d (.int .i64 n3)), (9, PV.d (.int .i64 i6))], ([X.Obj.row 27 8 (E.L_Value l5) true none] : List X.Obj) :: st))) (fun (q : ((List Value) × Int)) => (match q with | (o18, o19) => (.exit 0, [(0, PV.d (.sl (E.L_Value a0_l) (E.X_Value a0_x))), (2, PV.d (.sl [] (some []))), (3, PV.row 0 0 (ln o18)), (8, PV.d (.int .i64 n3)), (9, PV.d (.int .i64 o19))], ([X.Obj.row 27 8 (E.L_Value o18) true none] : List X.Obj) :: st))) (r2, 0) hl17 (by first | rfl | ((try clear h); subst_vars; rfl) | ((try clear h); subst_vars; simp only [ln_set])) ?_ ?_
  · clear h hl17
    rintro ⟨l5, i6⟩ q h
    unfold P50_s0 at h
    dsimp only at h
    obtain ⟨ln_l5, hln_l5⟩ : ∃ n, ln l5 = n := ⟨_, rfl⟩
    simp only [hln_l5]
    conv => arg 1; cbv
    refine sat_in hΩ ?_
    conv => arg 1; cbv
    replace h := bif_cases h
    rcases h with ⟨hb7, h⟩ | ⟨hb7, h⟩
    · refine sat_brt (by first | exact hb7 | ((try clear h); subst_vars; first | exact hb7 | rfl)) ?_
      conv => arg 1; cbv
      refine sat_true (len_ok hΩ (ro_Value hE) l5 (by first | rfl | ((try clear h); subst_vars; rfl) | ((try clear h); subst_vars; simp only [ln_set])) (by first | rfl | ((try clear h); subst_vars; rfl) | ((try clear h); subst_vars; simp only [ln_set]))) ?_
      conv => arg 1; cbv
      obtain ⟨⟨x8_Kind, x8_N, x8_S, ⟨x8_L_l, x8_L_x⟩, ⟨x8_F_l, x8_F_x⟩, x8_Elem, x8_Key, x8_HasKey⟩, hx9, hz⟩ := Option.bind_eq_some_iff.1 h
      clear h
      have h := hz
      clear hz
      try dsimp only at h
      refine sat_bind (nth_ok hΩ (ro_Value hE) hx9 (by first | rfl | ((try clear h); subst_vars; rfl)) (by first | rfl | ((try clear h); subst_vars; rfl))) ?_
      conv => arg 1; cbv
      refine sat_true (len_ok hΩ (ro_Value hE) l5 (by first | rfl | ((try clear h); subst_vars; rfl) | ((try clear h); subst_vars; simp only [ln_set])) (by first | rfl | ((try clear h); subst_vars; rfl) | ((try clear h); subst_vars; simp only [ln_set]))) ?_
      conv => arg 1; cbv
      refine sat_bind (nth_ok hΩ (ro_Value hE) hx9 (by first | rfl | ((try clear h); subst_vars; rfl)) (by first | rfl | ((try clear h); subst_vars; rfl))) ?_
      conv => arg 1; cbv
      obtain ⟨⟨r10_Kind, r10_N, r10_S, ⟨r10_L_l, r10_L_x⟩, ⟨r10_F_l, r10_F_x⟩, r10_Elem, r10_Key, r10_HasKey⟩, hx11, hz⟩ := Option.bind_eq_some_iff.1 h
      clear h
      have h := hz
      clear hz
      try dsimp only at h
      refine sat_call (hp26 hx11 (by (try clear h); subst_vars; rfl) _) ?_
      conv => arg 1; cbv
      refine sat_true (len_ok hΩ (ro_Value hE) l5 (by first | rfl | ((try clear h); subst_vars; rfl) | ((try clear h); subst_vars; simp only [ln_set])) (by first | rfl | ((try clear h); subst_vars; rfl) | ((try clear h); subst_vars; simp only [ln_set]))) ?_
      conv => arg 1; cbv
      obtain ⟨⟨x12_Kind, x12_N, x12_S, ⟨x12_L_l, x12_L_x⟩, ⟨x12_F_l, x12_F_x⟩, x12_Elem, x12_Key, x12_HasKey⟩, hx13, hz⟩ := Option.bind_eq_some_iff.1 h
      clear h
      have h := hz
      clear hz
      try dsimp only at h
      refine sat_bind (nth_ok hΩ (ro_Value hE) hx13 (by first | rfl | ((try clear h); subst_vars; rfl)) (by first | rfl | ((try clear h); subst_vars; rfl))) ?_
      conv => arg 1; cbv
      refine sat_true (len_ok hΩ (ro_Value hE) l5 (by first | rfl | ((try clear h); subst_vars; rfl) | ((try clear h); subst_vars; simp only [ln_set])) (by first | rfl | ((try clear h); subst_vars; rfl) | ((try clear h); subst_vars; simp only [ln_set]))) ?_
      conv => arg 1; cbv
      refine sat_bind (nth_ok hΩ (ro_Value hE) hx13 (by first | rfl | ((try clear h); subst_vars; rfl)) (by first | rfl | ((try clear h); subst_vars; rfl))) ?_
      conv => arg 1; cbv
      refine sat_set hΩ (ro_Value hE) l5 i6 (Value.mk r10_Kind r10_N r10_S (Sl.mk r10_L_l r10_L_x) (Sl.mk r10_F_l r10_F_x) r10_Elem r10_Key r10_HasKey) (by first | rfl | ((try clear h); subst_vars; rfl)) (by first | rfl | ((try clear h); subst_vars; rfl)) (by first | rfl | ((try clear h); subst_vars; rfl)) fun l14 hl15 => ?_
      conv => arg 1; cbv
      obtain rfl := Option.some.inj h
      subst_vars
      first | exact sat_pure ⟨rfl, rfl, rfl⟩ | (refine sat_pure ⟨rfl, ?_, ?_⟩ <;> first | rfl | (dsimp only; simp only [ln_set]; rfl))
    · refine sat_brf (by first | exact hb7 | ((try clear h); subst_vars; first | exact hb7 | rfl)) ?_
      conv => arg 1; cbv
      obtain rfl := Option.some.inj h
      subst_vars
      first | exact sat_pure (.inl ⟨⟨_, rfl⟩, rfl⟩) | (refine sat_pure (.inl ⟨⟨_, rfl⟩, ?_⟩); dsimp only; simp only [ln_set]; rfl)
  · clear hl17
    rcases q with ⟨o18, o19⟩
    dsimp only at h
    obtain ⟨ln_o18, hln_o18⟩ : ∃ n, ln o18 = n := ⟨_, rfl⟩
    simp only [hln_o18]
    conv => arg 1; cbv
    refine sat_true (len_ok hΩ (ro_Value hE) o18 (by first | rfl | ((try clear h); subst_vars; rfl) | ((try clear h); subst_vars; simp only [ln_set])) (by first | rfl | ((try clear h); subst_vars; rfl) | ((try clear h); subst_vars; simp only [ln_set]))) ?_
    conv => arg 1; cbv
    obtain ⟨⟨r20_l, r20_x⟩, hx21, hz⟩ := Option.bind_eq_some_iff.1 h
    clear h
    have h := hz
    clear hz
    try dsimp only at h
    refine sat_call (ok70 hΩ hE hx21 (by (try clear h); subst_vars; rfl) _) ?_
    conv => arg 1; cbv
    obtain rfl := Option.some.inj h
    subst_vars
    exact sat_pure rfl
theorem okr24 {Ω : Om} {E : Enc} (hΩ : real (call S) = Ω) (hE : theEnc = E) : ∀ fu,
    (∀ {a0 : Sl Field} {r : (Sl Field)}, P24 fu a0 = some r → ∀ {args : List PV}, [PV.d (.sl (E.L_Field a0.l) (E.X_Field a0.x))] = args → ∀ (st : St), Sat (Ω.cf 24 args st) (fun q => q = (PV.d (.sl (E.L_Field r.l) (E.X_Field r.x)), st))) ∧
    (∀ {a0 : Value} {r : Value}, P26 fu a0 = some r → ∀ {args : List PV}, [pv_Value E a0] = args → ∀ (st : St), Sat (Ω.cf 26 args st) (fun q => q = (pv_Value E r, st))) ∧
    (∀ {a0 : Sl Value} {r : (Sl Value)}, P50 fu a0 = some r → ∀ {args : List PV}, [PV.d (.sl (E.L_Value a0.l) (E.X_Value a0.x))] = args → ∀ (st : St), Sat (Ω.cf 50 args st) (fun q => q = (PV.d (.sl (E.L_Value r.l) (E.X_Value r.x)), st))) := by
  intro fu
  induction fu with
  | zero => exact ⟨(fun h => (by cases h)), (fun h => (by cases h)), (fun h => (by cases h))⟩
  | succ fu ih =>
    obtain ⟨i24, i26, i50⟩ := ih
    exact ⟨(fun h => @fun args ha st => okb24 (fu := fu) hΩ hE i24 i26 i50 h ha st), (fun h => @fun args ha st => okb26 (fu := fu) hΩ hE i24 i26 i50 h ha st), (fun h => @fun args ha st => okb50 (fu := fu) hΩ hE i24 i26 i50 h ha st)⟩
theorem ok24 {Ω : Om} {E : Enc} (hΩ : real (call S) = Ω) (hE : theEnc = E) {fu : Nat} : ∀ {a0 : Sl Field} {r : (Sl Field)}, P24 fu a0 = some r → ∀ {args : List PV}, [PV.d (.sl (E.L_Field a0.l) (E.X_Field a0.x))] = args → ∀ (st : St), Sat (Ω.cf 24 args st) (fun q => q = (PV.d (.sl (E.L_Field r.l) (E.X_Field r.x)), st)) := (okr24 hΩ hE fu).1
theorem ok26 {Ω : Om} {E : Enc} (hΩ : real (call S) = Ω) (hE : theEnc = E) {fu : Nat} : ∀ {a0 : Value} {r : Value}, P26 fu a0 = some r → ∀ {args : List PV}, [pv_Value E a0] = args → ∀ (st : St), Sat (Ω.cf 26 args st) (fun q => q = (pv_Value E r, st)) := (okr24 hΩ hE fu).2.1
theorem ok50 {Ω : Om} {E : Enc} (hΩ : real (call S) = Ω) (hE : theEnc = E) {fu : Nat} : ∀ {a0 : Sl Value} {r : (Sl Value)}, P50 fu a0 = some r → ∀ {args : List PV}, [PV.d (.sl (E.L_Value a0.l) (E.X_Value a0.x))] = args → ∀ (st : St), Sat (Ω.cf 50 args st) (fun q => q = (PV.d (.sl (E.L_Value r.l) (E.X_Value r.x)), st)) := (okr24 hΩ hE fu).2.2
set_option maxHeartbeats 4000000 in
theorem ok93 {Ω : Om} {E : Enc} (hΩ : real (call S) = Ω) (hE : theEnc = E) {fu : Nat} {a0 : Sl Act} {r : (List Act)} (h : P93 fu a0 = some r) {args : List PV} (ha : [PV.d (.sl (E.L_Act a0.l) (E.X_Act a0.x))] = args) {st : St} (hH : X.hasL st 0 = true) {n : Int} (hn : ln r = n) :
    Sat (Ω.cf 93 args st) (fun q => q = (PV.row 0 (X.numO st 0) n, X.addO st 0 (X.Obj.row 105 12 (E.L_Act r) true none))) := by
  subst ha
  rcases a0 with ⟨a0_l, a0_x⟩
  rw [cf_body hΩ (f := 93) (fn := Try.f93) (x := c93) rfl rfl c93_ok rfl rfl]
  unfold P93 at h
  try dsimp only at h
  conv => arg 1; cbv
  refine sat_nil hΩ (ro_Act hE) fun l1 hl2 => ?_
  conv => arg 1; cbv
  refine sat_in hΩ ?_
  conv => arg 1; cbv
  replace h := bif_cases h
  rcases h with ⟨hb3, h⟩ | ⟨hb3, h⟩
  · refine sat_brt (len_zero hΩ (ro_Act hE) (l := a0_l) hb3 (by first | rfl | ((try clear h); subst_vars; rfl))) ?_
    conv => arg 1; cbv
    obtain ⟨ha16, hb17⟩ := agree_some h
    clear h
    refine sat_both hΩ ?_ ?_
    · clear hb17
      have h := ha16
      clear ha16
      conv => arg 1; cbv
      refine sat_nil hΩ (ro_Act hE) fun l4 hl5 => ?_
      conv => arg 1; cbv
      refine sat_addfar' hΩ hH fun kk st2 hk2 hs2 => ?_
      conv => arg 1; cbv
      obtain rfl := Option.some.inj h
      subst_vars
      exact sat_pure rfl
    · clear ha16
      have h := hb17
      clear hb17
      conv => arg 1; cbv
      obtain ⟨q, hq15, hz⟩ := Option.bind_eq_some_iff.1 h
      clear h
      have h := hz
      clear hz
      refine sat_grp hΩ ((fun (q : (List Act)) => (match q with | l14 => ([(0, PV.d (.sl (E.L_Act a0_l) (E.X_Act a0_x))), (2, PV.row 0 1 (ln l14))], ([X.Obj.row 105 12 (E.L_Act l1) true none, X.Obj.row 105 12 (E.L_Act l14) true none] : List X.Obj) :: st))) q) (fun k hk => ?_) ?_
      · clear h
        have h := hq15
        clear hq15
        conv => arg 1; cbv
        refine sat_nil hΩ (ro_Act hE) fun l6 hl7 => ?_
        conv => arg 1; cbv
        refine sat_true (ieq_ok hΩ _) ?_
        conv => arg 1; cbv
        refine sat_true (fits_l hΩ (ro_Act hE) a0_l (by first | rfl | ((try clear h); subst_vars; rfl))) ?_
        conv => arg 1; cbv
        refine sat_true (len_ok hΩ (ro_Act hE) ([] : List Act) (by first | rfl | ((try clear h); subst_vars; rfl) | ((try clear h); subst_vars; simp only [ln_set])) (by first | rfl | ((try clear h); subst_vars; rfl) | ((try clear h); subst_vars; simp only [ln_set]))) ?_
        conv => arg 1; cbv
        replace h := bif_cases h
        rcases h with ⟨hb8, h⟩ | ⟨hb8, h⟩
        · refine sat_brt (len_zero hΩ (ro_Act hE) (l := a0_l) hb8 (by first | rfl | ((try clear h); subst_vars; rfl))) ?_
          conv => arg 1; cbv
          obtain rfl := Option.some.inj h
          subst_vars
          first | exact hk | (simp only [ln_set] at hk ⊢; exact hk)
        · refine sat_brf (len_zero hΩ (ro_Act hE) (l := a0_l) hb8 (by first | rfl | ((try clear h); subst_vars; rfl))) ?_
          conv => arg 1; cbv
          refine sat_cat hΩ (ro_Act hE) ([] : List Act) a0_l (by first | rfl | ((try clear h); subst_vars; rfl)) (by first | rfl | ((try clear h); subst_vars; rfl)) fun l9 hl10 n11 hn12 => ?_
          conv => arg 1; cbv
          replace h := bif_some h
          obtain ⟨hb13, h⟩ := h
          refine sat_true (by first | exact hb13 | ((try clear h); subst_vars; first | exact hb13 | rfl)) ?_
          conv => arg 1; cbv
          obtain rfl := Option.some.inj h
          subst_vars
          first | exact hk | (simp only [ln_set] at hk ⊢; exact hk)
      · clear hq15
        obtain ⟨l14, hqq⟩ : ∃ x, x = q := ⟨_, rfl⟩
        subst hqq
        try dsimp only at h
        obtain ⟨ln_l14, hln_l14⟩ : ∃ n, ln l14 = n := ⟨_, rfl⟩
        simp only [hln_l14]
        conv => arg 1; cbv
        refine sat_addfar' hΩ hH fun kk st2 hk2 hs2 => ?_
        conv => arg 1; cbv
        obtain rfl := Option.some.inj h
        subst_vars
        exact sat_pure rfl
  · refine sat_brf (len_zero hΩ (ro_Act hE) (l := a0_l) hb3 (by first | rfl | ((try clear h); subst_vars; rfl))) ?_
    conv => arg 1; cbv
    refine sat_in hΩ ?_
    conv => arg 1; cbv
    obtain ⟨q, hq27, hz⟩ := Option.bind_eq_some_iff.1 h
    clear h
    have h := hz
    clear hz
    refine sat_grp hΩ ((fun (q : (List Act)) => (match q with | l26 => ([(0, PV.d (.sl (E.L_Act a0_l) (E.X_Act a0_x))), (2, PV.row 0 1 (ln l26))], ([X.Obj.row 105 12 (E.L_Act l1) true none, X.Obj.row 105 12 (E.L_Act l26) true none] : List X.Obj) :: st))) q) (fun k hk => ?_) ?_
    · clear h
      have h := hq27
      clear hq27
      conv => arg 1; cbv
      refine sat_nil hΩ (ro_Act hE) fun l18 hl19 => ?_
      conv => arg 1; cbv
      refine sat_true (ieq_ok hΩ _) ?_
      conv => arg 1; cbv
      refine sat_true (fits_l hΩ (ro_Act hE) a0_l (by first | rfl | ((try clear h); subst_vars; rfl))) ?_
      conv => arg 1; cbv
      refine sat_true (len_ok hΩ (ro_Act hE) ([] : List Act) (by first | rfl | ((try clear h); subst_vars; rfl) | ((try clear h); subst_vars; simp only [ln_set])) (by first | rfl | ((try clear h); subst_vars; rfl) | ((try clear h); subst_vars; simp only [ln_set]))) ?_
      conv => arg 1; cbv
      replace h := bif_cases h
      rcases h with ⟨hb20, h⟩ | ⟨hb20, h⟩
      · refine sat_brt (len_zero hΩ (ro_Act hE) (l := a0_l) hb20 (by first | rfl | ((try clear h); subst_vars; rfl))) ?_
        conv => arg 1; cbv
        obtain rfl := Option.some.inj h
        subst_vars
        first | exact hk | (simp only [ln_set] at hk ⊢; exact hk)
      · refine sat_brf (len_zero hΩ (ro_Act hE) (l := a0_l) hb20 (by first | rfl | ((try clear h); subst_vars; rfl))) ?_
        conv => arg 1; cbv
        refine sat_cat hΩ (ro_Act hE) ([] : List Act) a0_l (by first | rfl | ((try clear h); subst_vars; rfl)) (by first | rfl | ((try clear h); subst_vars; rfl)) fun l21 hl22 n23 hn24 => ?_
        conv => arg 1; cbv
        replace h := bif_some h
        obtain ⟨hb25, h⟩ := h
        refine sat_true (by first | exact hb25 | ((try clear h); subst_vars; first | exact hb25 | rfl)) ?_
        conv => arg 1; cbv
        obtain rfl := Option.some.inj h
        subst_vars
        first | exact hk | (simp only [ln_set] at hk ⊢; exact hk)
    · clear hq27
      obtain ⟨l26, hqq⟩ : ∃ x, x = q := ⟨_, rfl⟩
      subst hqq
      try dsimp only at h
      obtain ⟨ln_l26, hln_l26⟩ : ∃ n, ln l26 = n := ⟨_, rfl⟩
      simp only [hln_l26]
      conv => arg 1; cbv
      refine sat_addfar' hΩ hH fun kk st2 hk2 hs2 => ?_
      conv => arg 1; cbv
      obtain rfl := Option.some.inj h
      subst_vars
      exact sat_pure rfl
set_option maxHeartbeats 4000000 in
theorem ok99 {Ω : Om} {E : Enc} (hΩ : real (call S) = Ω) (hE : theEnc = E) {fu : Nat} {a0 : Sl Expr} {r : (List Expr)} (h : P99 fu a0 = some r) {args : List PV} (ha : [PV.d (.sl (E.L_Expr a0.l) (E.X_Expr a0.x))] = args) {st : St} (hH : X.hasL st 0 = true) {n : Int} (hn : ln r = n) :
    Sat (Ω.cf 99 args st) (fun q => q = (PV.row 0 (X.numO st 0) n, X.addO st 0 (X.Obj.row 103 10 (E.L_Expr r) true none))) := by
  subst ha
  rcases a0 with ⟨a0_l, a0_x⟩
  rw [cf_body hΩ (f := 99) (fn := Try.f99) (x := c99) rfl rfl c99_ok rfl rfl]
  unfold P99 at h
  try dsimp only at h
  conv => arg 1; cbv
  refine sat_nil hΩ (ro_Expr hE) fun l1 hl2 => ?_
  conv => arg 1; cbv
  refine sat_in hΩ ?_
  conv => arg 1; cbv
  replace h := bif_cases h
  rcases h with ⟨hb3, h⟩ | ⟨hb3, h⟩
  · refine sat_brt (len_zero hΩ (ro_Expr hE) (l := a0_l) hb3 (by first | rfl | ((try clear h); subst_vars; rfl))) ?_
    conv => arg 1; cbv
    obtain ⟨ha16, hb17⟩ := agree_some h
    clear h
    refine sat_both hΩ ?_ ?_
    · clear hb17
      have h := ha16
      clear ha16
      conv => arg 1; cbv
      refine sat_nil hΩ (ro_Expr hE) fun l4 hl5 => ?_
      conv => arg 1; cbv
      refine sat_addfar' hΩ hH fun kk st2 hk2 hs2 => ?_
      conv => arg 1; cbv
      obtain rfl := Option.some.inj h
      subst_vars
      exact sat_pure rfl
    · clear ha16
      have h := hb17
      clear hb17
      conv => arg 1; cbv
      obtain ⟨q, hq15, hz⟩ := Option.bind_eq_some_iff.1 h
      clear h
      have h := hz
      clear hz
      refine sat_grp hΩ ((fun (q : (List Expr)) => (match q with | l14 => ([(0, PV.d (.sl (E.L_Expr a0_l) (E.X_Expr a0_x))), (2, PV.row 0 1 (ln l14))], ([X.Obj.row 103 10 (E.L_Expr l1) true none, X.Obj.row 103 10 (E.L_Expr l14) true none] : List X.Obj) :: st))) q) (fun k hk => ?_) ?_
      · clear h
        have h := hq15
        clear hq15
        conv => arg 1; cbv
        refine sat_nil hΩ (ro_Expr hE) fun l6 hl7 => ?_
        conv => arg 1; cbv
        refine sat_true (ieq_ok hΩ _) ?_
        conv => arg 1; cbv
        refine sat_true (fits_l hΩ (ro_Expr hE) a0_l (by first | rfl | ((try clear h); subst_vars; rfl))) ?_
        conv => arg 1; cbv
        refine sat_true (len_ok hΩ (ro_Expr hE) ([] : List Expr) (by first | rfl | ((try clear h); subst_vars; rfl) | ((try clear h); subst_vars; simp only [ln_set])) (by first | rfl | ((try clear h); subst_vars; rfl) | ((try clear h); subst_vars; simp only [ln_set]))) ?_
        conv => arg 1; cbv
        replace h := bif_cases h
        rcases h with ⟨hb8, h⟩ | ⟨hb8, h⟩
        · refine sat_brt (len_zero hΩ (ro_Expr hE) (l := a0_l) hb8 (by first | rfl | ((try clear h); subst_vars; rfl))) ?_
          conv => arg 1; cbv
          obtain rfl := Option.some.inj h
          subst_vars
          first | exact hk | (simp only [ln_set] at hk ⊢; exact hk)
        · refine sat_brf (len_zero hΩ (ro_Expr hE) (l := a0_l) hb8 (by first | rfl | ((try clear h); subst_vars; rfl))) ?_
          conv => arg 1; cbv
          refine sat_cat hΩ (ro_Expr hE) ([] : List Expr) a0_l (by first | rfl | ((try clear h); subst_vars; rfl)) (by first | rfl | ((try clear h); subst_vars; rfl)) fun l9 hl10 n11 hn12 => ?_
          conv => arg 1; cbv
          replace h := bif_some h
          obtain ⟨hb13, h⟩ := h
          refine sat_true (by first | exact hb13 | ((try clear h); subst_vars; first | exact hb13 | rfl)) ?_
          conv => arg 1; cbv
          obtain rfl := Option.some.inj h
          subst_vars
          first | exact hk | (simp only [ln_set] at hk ⊢; exact hk)
      · clear hq15
        obtain ⟨l14, hqq⟩ : ∃ x, x = q := ⟨_, rfl⟩
        subst hqq
        try dsimp only at h
        obtain ⟨ln_l14, hln_l14⟩ : ∃ n, ln l14 = n := ⟨_, rfl⟩
        simp only [hln_l14]
        conv => arg 1; cbv
        refine sat_addfar' hΩ hH fun kk st2 hk2 hs2 => ?_
        conv => arg 1; cbv
        obtain rfl := Option.some.inj h
        subst_vars
        exact sat_pure rfl
  · refine sat_brf (len_zero hΩ (ro_Expr hE) (l := a0_l) hb3 (by first | rfl | ((try clear h); subst_vars; rfl))) ?_
    conv => arg 1; cbv
    refine sat_in hΩ ?_
    conv => arg 1; cbv
    obtain ⟨q, hq27, hz⟩ := Option.bind_eq_some_iff.1 h
    clear h
    have h := hz
    clear hz
    refine sat_grp hΩ ((fun (q : (List Expr)) => (match q with | l26 => ([(0, PV.d (.sl (E.L_Expr a0_l) (E.X_Expr a0_x))), (2, PV.row 0 1 (ln l26))], ([X.Obj.row 103 10 (E.L_Expr l1) true none, X.Obj.row 103 10 (E.L_Expr l26) true none] : List X.Obj) :: st))) q) (fun k hk => ?_) ?_
    · clear h
      have h := hq27
      clear hq27
      conv => arg 1; cbv
      refine sat_nil hΩ (ro_Expr hE) fun l18 hl19 => ?_
      conv => arg 1; cbv
      refine sat_true (ieq_ok hΩ _) ?_
      conv => arg 1; cbv
      refine sat_true (fits_l hΩ (ro_Expr hE) a0_l (by first | rfl | ((try clear h); subst_vars; rfl))) ?_
      conv => arg 1; cbv
      refine sat_true (len_ok hΩ (ro_Expr hE) ([] : List Expr) (by first | rfl | ((try clear h); subst_vars; rfl) | ((try clear h); subst_vars; simp only [ln_set])) (by first | rfl | ((try clear h); subst_vars; rfl) | ((try clear h); subst_vars; simp only [ln_set]))) ?_
      conv => arg 1; cbv
      replace h := bif_cases h
      rcases h with ⟨hb20, h⟩ | ⟨hb20, h⟩
      · refine sat_brt (len_zero hΩ (ro_Expr hE) (l := a0_l) hb20 (by first | rfl | ((try clear h); subst_vars; rfl))) ?_
        conv => arg 1; cbv
        obtain rfl := Option.some.inj h
        subst_vars
        first | exact hk | (simp only [ln_set] at hk ⊢; exact hk)
      · refine sat_brf (len_zero hΩ (ro_Expr hE) (l := a0_l) hb20 (by first | rfl | ((try clear h); subst_vars; rfl))) ?_
        conv => arg 1; cbv
        refine sat_cat hΩ (ro_Expr hE) ([] : List Expr) a0_l (by first | rfl | ((try clear h); subst_vars; rfl)) (by first | rfl | ((try clear h); subst_vars; rfl)) fun l21 hl22 n23 hn24 => ?_
        conv => arg 1; cbv
        replace h := bif_some h
        obtain ⟨hb25, h⟩ := h
        refine sat_true (by first | exact hb25 | ((try clear h); subst_vars; first | exact hb25 | rfl)) ?_
        conv => arg 1; cbv
        obtain rfl := Option.some.inj h
        subst_vars
        first | exact hk | (simp only [ln_set] at hk ⊢; exact hk)
    · clear hq27
      obtain ⟨l26, hqq⟩ : ∃ x, x = q := ⟨_, rfl⟩
      subst hqq
      try dsimp only at h
      obtain ⟨ln_l26, hln_l26⟩ : ∃ n, ln l26 = n := ⟨_, rfl⟩
      simp only [hln_l26]
      conv => arg 1; cbv
      refine sat_addfar' hΩ hH fun kk st2 hk2 hs2 => ?_
      conv => arg 1; cbv
      obtain rfl := Option.some.inj h
      subst_vars
      exact sat_pure rfl
set_option maxHeartbeats 4000000 in
theorem ok98 {Ω : Om} {E : Enc} (hΩ : real (call S) = Ω) (hE : theEnc = E) {fu : Nat} {a0 : Sl ByteArray} {r : (List ByteArray)} (h : P98 fu a0 = some r) {args : List PV} (ha : [PV.d (.sl (E.L_str a0.l) (E.X_str a0.x))] = args) {st : St} (hH : X.hasL st 0 = true) {n : Int} (hn : ln r = n) :
    Sat (Ω.cf 98 args st) (fun q => q = (PV.row 0 (X.numO st 0) n, X.addO st 0 (X.Obj.row 9 1 (E.L_str r) true none))) := by
  subst ha
  rcases a0 with ⟨a0_l, a0_x⟩
  rw [cf_body hΩ (f := 98) (fn := Try.f98) (x := c98) rfl rfl c98_ok rfl rfl]
  unfold P98 at h
  try dsimp only at h
  conv => arg 1; cbv
  refine sat_nil hΩ (ro_str hE) fun l1 hl2 => ?_
  conv => arg 1; cbv
  refine sat_in hΩ ?_
  conv => arg 1; cbv
  replace h := bif_cases h
  rcases h with ⟨hb3, h⟩ | ⟨hb3, h⟩
  · refine sat_brt (len_zero hΩ (ro_str hE) (l := a0_l) hb3 (by first | rfl | ((try clear h); subst_vars; rfl))) ?_
    conv => arg 1; cbv
    obtain ⟨ha16, hb17⟩ := agree_some h
    clear h
    refine sat_both hΩ ?_ ?_
    · clear hb17
      have h := ha16
      clear ha16
      conv => arg 1; cbv
      refine sat_nil hΩ (ro_str hE) fun l4 hl5 => ?_
      conv => arg 1; cbv
      refine sat_addfar' hΩ hH fun kk st2 hk2 hs2 => ?_
      conv => arg 1; cbv
      obtain rfl := Option.some.inj h
      subst_vars
      exact sat_pure rfl
    · clear ha16
      have h := hb17
      clear hb17
      conv => arg 1; cbv
      obtain ⟨q, hq15, hz⟩ := Option.bind_eq_some_iff.1 h
      clear h
      have h := hz
      clear hz
      refine sat_grp hΩ ((fun (q : (List ByteArray)) => (match q with | l14 => ([(0, PV.d (.sl (E.L_str a0_l) (E.X_str a0_x))), (2, PV.row 0 1 (ln l14))], ([X.Obj.row 9 1 (E.L_str l1) true none, X.Obj.row 9 1 (E.L_str l14) true none] : List X.Obj) :: st))) q) (fun k hk => ?_) ?_
      · clear h
        have h := hq15
        clear hq15
        conv => arg 1; cbv
        refine sat_nil hΩ (ro_str hE) fun l6 hl7 => ?_
        conv => arg 1; cbv
        refine sat_true (ieq_ok hΩ _) ?_
        conv => arg 1; cbv
        refine sat_true (fits_l hΩ (ro_str hE) a0_l (by first | rfl | ((try clear h); subst_vars; rfl))) ?_
        conv => arg 1; cbv
        refine sat_true (len_ok hΩ (ro_str hE) ([] : List ByteArray) (by first | rfl | ((try clear h); subst_vars; rfl) | ((try clear h); subst_vars; simp only [ln_set])) (by first | rfl | ((try clear h); subst_vars; rfl) | ((try clear h); subst_vars; simp only [ln_set]))) ?_
        conv => arg 1; cbv
        replace h := bif_cases h
        rcases h with ⟨hb8, h⟩ | ⟨hb8, h⟩
        · refine sat_brt (len_zero hΩ (ro_str hE) (l := a0_l) hb8 (by first | rfl | ((try clear h); subst_vars; rfl))) ?_
          conv => arg 1; cbv
          obtain rfl := Option.some.inj h
          subst_vars
          first | exact hk | (simp only [ln_set] at hk ⊢; exact hk)
        · refine sat_brf (len_zero hΩ (ro_str hE) (l := a0_l) hb8 (by first | rfl | ((try clear h); subst_vars; rfl))) ?_
          conv => arg 1; cbv
          refine sat_cat hΩ (ro_str hE) ([] : List ByteArray) a0_l (by first | rfl | ((try clear h); subst_vars; rfl)) (by first | rfl | ((try clear h); subst_vars; rfl)) fun l9 hl10 n11 hn12 => ?_
          conv => arg 1; cbv
          replace h := bif_some h
          obtain ⟨hb13, h⟩ := h
          refine sat_true (by first | exact hb13 | ((try clear h); subst_vars; first | exact hb13 | rfl)) ?_
          conv => arg 1; cbv
          obtain rfl := Option.some.inj h
          subst_vars
          first | exact hk | (simp only [ln_set] at hk ⊢; exact hk)
      · clear hq15
        obtain ⟨l14, hqq⟩ : ∃ x, x = q := ⟨_, rfl⟩
        subst hqq
        try dsimp only at h
        obtain ⟨ln_l14, hln_l14⟩ : ∃ n, ln l14 = n := ⟨_, rfl⟩
        simp only [hln_l14]
        conv => arg 1; cbv
        refine sat_addfar' hΩ hH fun kk st2 hk2 hs2 => ?_
        conv => arg 1; cbv
        obtain rfl := Option.some.inj h
        subst_vars
        exact sat_pure rfl
  · refine sat_brf (len_zero hΩ (ro_str hE) (l := a0_l) hb3 (by first | rfl | ((try clear h); subst_vars; rfl))) ?_
    conv => arg 1; cbv
    refine sat_in hΩ ?_
    conv => arg 1; cbv
    obtain ⟨q, hq27, hz⟩ := Option.bind_eq_some_iff.1 h
    clear h
    have h := hz
    clear hz
    refine sat_grp hΩ ((fun (q : (List ByteArray)) => (match q with | l26 => ([(0, PV.d (.sl (E.L_str a0_l) (E.X_str a0_x))), (2, PV.row 0 1 (ln l26))], ([X.Obj.row 9 1 (E.L_str l1) true none, X.Obj.row 9 1 (E.L_str l26) true none] : List X.Obj) :: st))) q) (fun k hk => ?_) ?_
    · clear h
      have h := hq27
      clear hq27
      conv => arg 1; cbv
      refine sat_nil hΩ (ro_str hE) fun l18 hl19 => ?_
      conv => arg 1; cbv
      refine sat_true (ieq_ok hΩ _) ?_
      conv => arg 1; cbv
      refine sat_true (fits_l hΩ (ro_str hE) a0_l (by first | rfl | ((try clear h); subst_vars; rfl))) ?_
      conv => arg 1; cbv
      refine sat_true (len_ok hΩ (ro_str hE) ([] : List ByteArray) (by first | rfl | ((try clear h); subst_vars; rfl) | ((try clear h); subst_vars; simp only [ln_set])) (by first | rfl | ((try clear h); subst_vars; rfl) | ((try clear h); subst_vars; simp only [ln_set]))) ?_
      conv => arg 1; cbv
      replace h := bif_cases h
      rcases h with ⟨hb20, h⟩ | ⟨hb20, h⟩
      · refine sat_brt (len_zero hΩ (ro_str hE) (l := a0_l) hb20 (by first | rfl | ((try clear h); subst_vars; rfl))) ?_
        conv => arg 1; cbv
        obtain rfl := Option.some.inj h
        subst_vars
        first | exact hk | (simp only [ln_set] at hk ⊢; exact hk)
      · refine sat_brf (len_zero hΩ (ro_str hE) (l := a0_l) hb20 (by first | rfl | ((try clear h); subst_vars; rfl))) ?_
        conv => arg 1; cbv
        refine sat_cat hΩ (ro_str hE) ([] : List ByteArray) a0_l (by first | rfl | ((try clear h); subst_vars; rfl)) (by first | rfl | ((try clear h); subst_vars; rfl)) fun l21 hl22 n23 hn24 => ?_
        conv => arg 1; cbv
        replace h := bif_some h
        obtain ⟨hb25, h⟩ := h
        refine sat_true (by first | exact hb25 | ((try clear h); subst_vars; first | exact hb25 | rfl)) ?_
        conv => arg 1; cbv
        obtain rfl := Option.some.inj h
        subst_vars
        first | exact hk | (simp only [ln_set] at hk ⊢; exact hk)
    · clear hq27
      obtain ⟨l26, hqq⟩ : ∃ x, x = q := ⟨_, rfl⟩
      subst hqq
      try dsimp only at h
      obtain ⟨ln_l26, hln_l26⟩ : ∃ n, ln l26 = n := ⟨_, rfl⟩
      simp only [hln_l26]
      conv => arg 1; cbv
      refine sat_addfar' hΩ hH fun kk st2 hk2 hs2 => ?_
      conv => arg 1; cbv
      obtain rfl := Option.some.inj h
      subst_vars
      exact sat_pure rfl
set_option maxHeartbeats 4000000 in
theorem ok97 {Ω : Om} {E : Enc} (hΩ : real (call S) = Ω) (hE : theEnc = E) {fu : Nat} {a0 : Sl ByteArray} {r : (Sl ByteArray)} (h : P97 fu a0 = some r) {args : List PV} (ha : [PV.d (.sl (E.L_str a0.l) (E.X_str a0.x))] = args) (st : St) :
    Sat (Ω.cf 97 args st) (fun q => q = (PV.d (.sl (E.L_str r.l) (E.X_str r.x)), st)) := by
  subst ha
  rcases a0 with ⟨a0_l, a0_x⟩
  rw [cf_body hΩ (f := 97) (fn := Try.f97) (x := c97) rfl rfl c97_ok rfl rfl]
  unfold P97 at h
  try dsimp only at h
  conv => arg 1; cbv
  refine sat_len hΩ (ro_str hE) a0_l (by first | rfl | ((try clear h); subst_vars; rfl)) fun n1 hn2 => ?_
  conv => arg 1; cbv
  refine sat_len hΩ (ro_str hE) a0_l (by first | rfl | ((try clear h); subst_vars; rfl)) fun n3 hn4 => ?_
  conv => arg 1; cbv
  refine sat_true (fits_x hΩ (ro_str hE) a0_l a0_x (by first | rfl | ((try clear h); subst_vars; rfl)) (by first | rfl | ((try clear h); subst_vars; rfl))) ?_
  conv => arg 1; cbv
  refine sat_len hΩ (ro_str hE) a0_l (by first | rfl | ((try clear h); subst_vars; rfl)) fun n5 hn6 => ?_
  conv => arg 1; cbv
  replace h := bif_some h
  obtain ⟨hb7, h⟩ := h
  refine sat_true (by first | exact hb7 | ((try clear h); subst_vars; first | exact hb7 | rfl)) ?_
  conv => arg 1; cbv
  replace h := bif_some h
  obtain ⟨hb8, h⟩ := h
  refine sat_true (by first | exact hb8 | ((try clear h); subst_vars; first | exact hb8 | rfl)) ?_
  conv => arg 1; cbv
  replace h := bif_some h
  obtain ⟨hb9, h⟩ := h
  refine sat_true (by first | exact hb9 | ((try clear h); subst_vars; first | exact hb9 | rfl)) ?_
  conv => arg 1; cbv
  replace h := bif_some h
  obtain ⟨hb10, h⟩ := h
  refine sat_true (by first | exact hb10 | ((try clear h); subst_vars; first | exact hb10 | rfl)) ?_
  conv => arg 1; cbv
  refine sat_cut hΩ (ro_str hE) a0_l 0 (ln a0_l) (by first | rfl | ((try clear h); subst_vars; rfl)) (by first | rfl | ((try clear h); subst_vars; rfl)) (by first | rfl | ((try clear h); subst_vars; rfl)) fun l11 hl12 => ?_
  conv => arg 1; cbv
  refine sat_cut hΩ (ro_str hE) a0_l (ln a0_l) (ln a0_l) (by first | rfl | ((try clear h); subst_vars; rfl)) (by first | rfl | ((try clear h); subst_vars; rfl)) (by first | rfl | ((try clear h); subst_vars; rfl)) fun l13 hl14 => ?_
  conv => arg 1; cbv
  obtain rfl := Option.some.inj h
  subst_vars
  exact sat_pure rfl
set_option maxHeartbeats 4000000 in
theorem ok95 {Ω : Om} {E : Enc} (hΩ : real (call S) = Ω) (hE : theEnc = E) {fu : Nat} {a0 : Sl Act} {r : (Sl Act)} (h : P95 fu a0 = some r) {args : List PV} (ha : [PV.d (.sl (E.L_Act a0.l) (E.X_Act a0.x))] = args) (st : St) :
    Sat (Ω.cf 95 args st) (fun q => q = (PV.d (.sl (E.L_Act r.l) (E.X_Act r.x)), st)) := by
  subst ha
  rcases a0 with ⟨a0_l, a0_x⟩
  rw [cf_body hΩ (f := 95) (fn := Try.f95) (x := c95) rfl rfl c95_ok rfl rfl]
  unfold P95 at h
  try dsimp only at h
  conv => arg 1; cbv
  refine sat_len hΩ (ro_Act hE) a0_l (by first | rfl | ((try clear h); subst_vars; rfl)) fun n1 hn2 => ?_
  conv => arg 1; cbv
  refine sat_len hΩ (ro_Act hE) a0_l (by first | rfl | ((try clear h); subst_vars; rfl)) fun n3 hn4 => ?_
  conv => arg 1; cbv
  refine sat_true (fits_x hΩ (ro_Act hE) a0_l a0_x (by first | rfl | ((try clear h); subst_vars; rfl)) (by first | rfl | ((try clear h); subst_vars; rfl))) ?_
  conv => arg 1; cbv
  refine sat_len hΩ (ro_Act hE) a0_l (by first | rfl | ((try clear h); subst_vars; rfl)) fun n5 hn6 => ?_
  conv => arg 1; cbv
  replace h := bif_some h
  obtain ⟨hb7, h⟩ := h
  refine sat_true (by first | exact hb7 | ((try clear h); subst_vars; first | exact hb7 | rfl)) ?_
  conv => arg 1; cbv
  replace h := bif_some h
  obtain ⟨hb8, h⟩ := h
  refine sat_true (by first | exact hb8 | ((try clear h); subst_vars; first | exact hb8 | rfl)) ?_
  conv => arg 1; cbv
  replace h := bif_some h
  obtain ⟨hb9, h⟩ := h
  refine sat_true (by first | exact hb9 | ((try clear h); subst_vars; first | exact hb9 | rfl)) ?_
  conv => arg 1; cbv
  replace h := bif_some h
  obtain ⟨hb10, h⟩ := h
  refine sat_true (by first | exact hb10 | ((try clear h); subst_vars; first | exact hb10 | rfl)) ?_
  conv => arg 1; cbv
  refine sat_cut hΩ (ro_Act hE) a0_l 0 (ln a0_l) (by first | rfl | ((try clear h); subst_vars; rfl)) (by first | rfl | ((try clear h); subst_vars; rfl)) (by first | rfl | ((try clear h); subst_vars; rfl)) fun l11 hl12 => ?_
  conv => arg 1; cbv
  refine sat_cut hΩ (ro_Act hE) a0_l (ln a0_l) (ln a0_l) (by first | rfl | ((try clear h); subst_vars; rfl)) (by first | rfl | ((try clear h); subst_vars; rfl)) (by first | rfl | ((try clear h); subst_vars; rfl)) fun l13 hl14 => ?_
  conv => arg 1; cbv
  obtain rfl := Option.some.inj h
  subst_vars
  exact sat_pure rfl
set_option maxHeartbeats 4000000 in
theorem ok100 {Ω : Om} {E : Enc} (hΩ : real (call S) = Ω) (hE : theEnc = E) {fu : Nat} {a0 : Sl Expr} {r : (Sl Expr)} (h : P100 fu a0 = some r) {args : List PV} (ha : [PV.d (.sl (E.L_Expr a0.l) (E.X_Expr a0.x))] = args) (st : St) :
    Sat (Ω.cf 100 args st) (fun q => q = (PV.d (.sl (E.L_Expr r.l) (E.X_Expr r.x)), st)) := by
  subst ha
  rcases a0 with ⟨a0_l, a0_x⟩
  rw [cf_body hΩ (f := 100) (fn := Try.f100) (x := c100) rfl rfl c100_ok rfl rfl]
  unfold P100 at h
  try dsimp only at h
  conv => arg 1; cbv
  refine sat_len hΩ (ro_Expr hE) a0_l (by first | rfl | ((try clear h); subst_vars; rfl)) fun n1 hn2 => ?_
  conv => arg 1; cbv
  refine sat_len hΩ (ro_Expr hE) a0_l (by first | rfl | ((try clear h); subst_vars; rfl)) fun n3 hn4 => ?_
  conv => arg 1; cbv
  refine sat_true (fits_x hΩ (ro_Expr hE) a0_l a0_x (by first | rfl | ((try clear h); subst_vars; rfl)) (by first | rfl | ((try clear h); subst_vars; rfl))) ?_
  conv => arg 1; cbv
  refine sat_len hΩ (ro_Expr hE) a0_l (by first | rfl | ((try clear h); subst_vars; rfl)) fun n5 hn6 => ?_
  conv => arg 1; cbv
  replace h := bif_some h
  obtain ⟨hb7, h⟩ := h
  refine sat_true (by first | exact hb7 | ((try clear h); subst_vars; first | exact hb7 | rfl)) ?_
  conv => arg 1; cbv
  replace h := bif_some h
  obtain ⟨hb8, h⟩ := h
  refine sat_true (by first | exact hb8 | ((try clear h); subst_vars; first | exact hb8 | rfl)) ?_
  conv => arg 1; cbv
  replace h := bif_some h
  obtain ⟨hb9, h⟩ := h
  refine sat_true (by first | exact hb9 | ((try clear h); subst_vars; first | exact hb9 | rfl)) ?_
  conv => arg 1; cbv
  replace h := bif_some h
  obtain ⟨hb10, h⟩ := h
  refine sat_true (by first | exact hb10 | ((try clear h); subst_vars; first | exact hb10 | rfl)) ?_
  conv => arg 1; cbv
  refine sat_cut hΩ (ro_Expr hE) a0_l 0 (ln a0_l) (by first | rfl | ((try clear h); subst_vars; rfl)) (by first | rfl | ((try clear h); subst_vars; rfl)) (by first | rfl | ((try clear h); subst_vars; rfl)) fun l11 hl12 => ?_
  conv => arg 1; cbv
  refine sat_cut hΩ (ro_Expr hE) a0_l (ln a0_l) (ln a0_l) (by first | rfl | ((try clear h); subst_vars; rfl)) (by first | rfl | ((try clear h); subst_vars; rfl)) (by first | rfl | ((try clear h); subst_vars; rfl)) fun l13 hl14 => ?_
  conv => arg 1; cbv
  obtain rfl := Option.some.inj h
  subst_vars
  exact sat_pure rfl
set_option maxHeartbeats 4000000 in
theorem okb86 {Ω : Om} {E : Enc} (hΩ : real (call S) = Ω) (hE : theEnc = E) {fu : Nat} {p86 : (Sl Act) → Option ((Sl Act))} (hp86 : ∀ {a0 : Sl Act} {r : (Sl Act)}, p86 a0 = some r → ∀ {args : List PV}, [PV.d (.sl (E.L_Act a0.l) (E.X_Act a0.x))] = args → ∀ (st : St), Sat (Ω.cf 86 args st) (fun q => q = (PV.d (.sl (E.L_Act r.l) (E.X_Act r.x)), st))) {p94 : Expr → Option (Expr)} (hp94 : ∀ {a0 : Expr} {r : Expr}, p94 a0 = some r → ∀ {args : List PV}, [pv_Expr E a0] = args → ∀ (st : St), Sat (Ω.cf 94 args st) (fun q => q = (pv_Expr E r, st))) {p96 : (Sl Expr) → Option ((Sl Expr))} (hp96 : ∀ {a0 : Sl Expr} {r : (Sl Expr)}, p96 a0 = some r → ∀ {args : List PV}, [PV.d (.sl (E.L_Expr a0.l) (E.X_Expr a0.x))] = args → ∀ (st : St), Sat (Ω.cf 96 args st) (fun q => q = (PV.d (.sl (E.L_Expr r.l) (E.X_Expr r.x)), st))) {a0 : Sl Act} {r : (Sl Act)} (h : Pb86 fu p86 p94 p96 a0 = some r) {args : List PV} (ha : [PV.d (.sl (E.L_Act a0.l) (E.X_Act a0.x))] = args) (st : St) :
    Sat (Ω.cf 86 args st) (fun q => q = (PV.d (.sl (E.L_Act r.l) (E.X_Act r.x)), st)) := by
  subst ha
  rcases a0 with ⟨a0_l, a0_x⟩
  rw [cf_body hΩ (f := 86) (fn := Try.f86) (x := c86) rfl rfl c86_ok rfl rfl]
  unfold Pb86 at h
  try dsimp only at h
  conv => arg 1; cbv
  obtain ⟨r2, hx1, hz⟩ := Option.bind_eq_some_iff.1 h
  clear h
  have h := hz
  clear hz
  obtain ⟨n3, hn4⟩ : ∃ n, ln r2 = n := ⟨_, rfl⟩
  refine sat_call (ok93 hΩ hE (st := ([] : List X.Obj) :: st) hx1 (by (try clear h); subst_vars; rfl) rfl hn4) ?_
  conv => arg 1; cbv
  obtain ⟨q, hl17, hz⟩ := Option.bind_eq_some_iff.1 h
  clear h
  have h := hz
  clear hz
  refine sat_loop hΩ (fun (a : (List Act) × Int) => (match a with | (l5, i6) => ([(0, PV.d (.sl (E.L_Act a0_l) (E.X_Act a0_x))), (2, PV.d (.sl [] (some []))), (3, PV.row 0 0 (ln l5)), (8, PV.d (.int .i64 n3)), (9, PV.d (.int .i64 i6))], ([X.Obj.row 105 12 (E.L_Act l5) true none] : List X.Obj) :: st))) (fun (q : ((List Act) × Int)) => (match q with | (o18, o19) => (.exit 0, [(0, PV.d (.sl (E.L_Act a0_l) (E.X_Act a0_x))), (2, PV.d (.sl [] (some []))), (3, PV.row 0 0 (ln o18)), (8, PV.d (.int .i64 n3)), (9, PV.d (.int .i64 o19))], ([X.Obj.row 105 12 (E.L_Act o18) true none] : List X.Obj) :: st))) (r2, 0) hl17 (by first | rfl | ((try clear h); subst_vars; rfl) | ((try clear h); subst_vars; simp only [ln_set])) ?_ ?_
  · clear h hl17
    rintro ⟨l5, i6⟩ q h
    unfold P86_s0 at h
    dsimp only at h
    obtain ⟨ln_l5, hln_l5⟩ : ∃ n, ln l5 = n := ⟨_, rfl⟩
    simp only [hln_l5]
    conv => arg 1; cbv
    refine sat_in hΩ ?_
    conv => arg 1; cbv
    replace h := bif_cases h
    rcases h with ⟨hb7, h⟩ | ⟨hb7, h⟩
    · refine sat_brt (by first | exact hb7 | ((try clear h); subst_vars; first | exact hb7 | rfl)) ?_
      conv => arg 1; cbv
      refine sat_true (len_ok hΩ (ro_Act hE) l5 (by first | rfl | ((try clear h); subst_vars; rfl) | ((try clear h); subst_vars; simp only [ln_set])) (by first | rfl | ((try clear h); subst_vars; rfl) | ((try clear h); subst_vars; simp only [ln_set]))) ?_
      conv => arg 1; cbv
      obtain ⟨⟨x8_Kind, x8_Name, ⟨x8_Expr__Kind, x8_Expr__N, x8_Expr__S, ⟨x8_Expr__Args_l, x8_Expr__Args_x⟩, ⟨x8_Expr__Names_l, x8_Expr__Names_x⟩, ⟨x8_Expr__Vals_l, x8_Expr__Vals_x⟩, x8_Expr__Elem, ⟨x8_Expr__Key_l, x8_Expr__Key_x⟩, ⟨x8_Expr__Acts_l, x8_Expr__Acts_x⟩, x8_Expr__Site⟩⟩, hx9, hz⟩ := Option.bind_eq_some_iff.1 h
      clear h
      have h := hz
      clear hz
      try dsimp only at h
      refine sat_bind (nth_ok hΩ (ro_Act hE) hx9 (by first | rfl | ((try clear h); subst_vars; rfl)) (by first | rfl | ((try clear h); subst_vars; rfl))) ?_
      conv => arg 1; cbv
      refine sat_true (len_ok hΩ (ro_Act hE) l5 (by first | rfl | ((try clear h); subst_vars; rfl) | ((try clear h); subst_vars; simp only [ln_set])) (by first | rfl | ((try clear h); subst_vars; rfl) | ((try clear h); subst_vars; simp only [ln_set]))) ?_
      conv => arg 1; cbv
      refine sat_bind (nth_ok hΩ (ro_Act hE) hx9 (by first | rfl | ((try clear h); subst_vars; rfl)) (by first | rfl | ((try clear h); subst_vars; rfl))) ?_
      conv => arg 1; cbv
      obtain ⟨⟨r10_Kind, r10_N, r10_S, ⟨r10_Args_l, r10_Args_x⟩, ⟨r10_Names_l, r10_Names_x⟩, ⟨r10_Vals_l, r10_Vals_x⟩, r10_Elem, ⟨r10_Key_l, r10_Key_x⟩, ⟨r10_Acts_l, r10_Acts_x⟩, r10_Site⟩, hx11, hz⟩ := Option.bind_eq_some_iff.1 h
      clear h
      have h := hz
      clear hz
      try dsimp only at h
      refine sat_call (hp94 hx11 (by (try clear h); subst_vars; rfl) _) ?_
      conv => arg 1; cbv
      refine sat_true (len_ok hΩ (ro_Act hE) l5 (by first | rfl | ((try clear h); subst_vars; rfl) | ((try clear h); subst_vars; simp only [ln_set])) (by first | rfl | ((try clear h); subst_vars; rfl) | ((try clear h); subst_vars; simp only [ln_set]))) ?_
      conv => arg 1; cbv
      obtain ⟨⟨x12_Kind, x12_Name, ⟨x12_Expr__Kind, x12_Expr__N, x12_Expr__S, ⟨x12_Expr__Args_l, x12_Expr__Args_x⟩, ⟨x12_Expr__Names_l, x12_Expr__Names_x⟩, ⟨x12_Expr__Vals_l, x12_Expr__Vals_x⟩, x12_Expr__Elem, ⟨x12_Expr__Key_l, x12_Expr__Key_x⟩, ⟨x12_Expr__Acts_l, x12_Expr__Acts_x⟩, x12_Expr__Site⟩⟩, hx13, hz⟩ := Option.bind_eq_some_iff.1 h
      clear h
      have h := hz
      clear hz
      try dsimp only at h
      refine sat_bind (nth_ok hΩ (ro_Act hE) hx13 (by first | rfl | ((try clear h); subst_vars; rfl)) (by first | rfl | ((try clear h); subst_vars; rfl))) ?_
      conv => arg 1; cbv
      refine sat_true (len_ok hΩ (ro_Act hE) l5 (by first | rfl | ((try clear h); subst_vars; rfl) | ((try clear h); subst_vars; simp only [ln_set])) (by first | rfl | ((try clear h); subst_vars; rfl) | ((try clear h); subst_vars; simp only [ln_set]))) ?_
      conv => arg 1; cbv
      refine sat_bind (nth_ok hΩ (ro_Act hE) hx13 (by first | rfl | ((try clear h); subst_vars; rfl)) (by first | rfl | ((try clear h); subst_vars; rfl))) ?_
      conv => arg 1; cbv
      refine sat_set hΩ (ro_Act hE) l5 i6 (Act.mk x12_Kind x12_Name (Expr.mk r10_Kind r10_N r10_S (Sl.mk r10_Args_l r10_Args_x) (Sl.mk r10_Names_l r10_Names_x) (Sl.mk r10_Vals_l r10_Vals_x) r10_Elem (Sl.mk r10_Key_l r10_Key_x) (Sl.mk r10_Acts_l r10_Acts_x) r10_Site)) (by first | rfl | ((try clear h); subst_vars; rfl)) (by first | rfl | ((try clear h); subst_vars; rfl)) (by first | rfl | ((try clear h); subst_vars; rfl)) fun l14 hl15 => ?_
      conv => arg 1; cbv
      obtain rfl := Option.some.inj h
      subst_vars
      first | exact sat_pure ⟨rfl, rfl, rfl⟩ | (refine sat_pure ⟨rfl, ?_, ?_⟩ <;> first | rfl | (dsimp only; simp only [ln_set]; rfl))
    · refine sat_brf (by first | exact hb7 | ((try clear h); subst_vars; first | exact hb7 | rfl)) ?_
      conv => arg 1; cbv
      obtain rfl := Option.some.inj h
      subst_vars
      first | exact sat_pure (.inl ⟨⟨_, rfl⟩, rfl⟩) | (refine sat_pure (.inl ⟨⟨_, rfl⟩, ?_⟩); dsimp only; simp only [ln_set]; rfl)
  · clear hl17
    rcases q with ⟨o18, o19⟩
    dsimp only at h
    obtain ⟨ln_o18, hln_o18⟩ : ∃ n, ln o18 = n := ⟨_, rfl⟩
    simp only [hln_o18]
    conv => arg 1; cbv
    refine sat_true (len_ok hΩ (ro_Act hE) o18 (by first | rfl | ((try clear h); subst_vars; rfl) | ((try clear h); subst_vars; simp only [ln_set])) (by first | rfl | ((try clear h); subst_vars; rfl) | ((try clear h); subst_vars; simp only [ln_set]))) ?_
    conv => arg 1; cbv
    obtain ⟨⟨r20_l, r20_x⟩, hx21, hz⟩ := Option.bind_eq_some_iff.1 h
    clear h
    have h := hz
    clear hz
    try dsimp only at h
    refine sat_call (ok95 hΩ hE hx21 (by (try clear h); subst_vars; rfl) _) ?_
    conv => arg 1; cbv
    obtain rfl := Option.some.inj h
    subst_vars
    exact sat_pure rfl
set_option maxHeartbeats 4000000 in
theorem okb94 {Ω : Om} {E : Enc} (hΩ : real (call S) = Ω) (hE : theEnc = E) {fu : Nat} {p86 : (Sl Act) → Option ((Sl Act))} (hp86 : ∀ {a0 : Sl Act} {r : (Sl Act)}, p86 a0 = some r → ∀ {args : List PV}, [PV.d (.sl (E.L_Act a0.l) (E.X_Act a0.x))] = args → ∀ (st : St), Sat (Ω.cf 86 args st) (fun q => q = (PV.d (.sl (E.L_Act r.l) (E.X_Act r.x)), st))) {p94 : Expr → Option (Expr)} (hp94 : ∀ {a0 : Expr} {r : Expr}, p94 a0 = some r → ∀ {args : List PV}, [pv_Expr E a0] = args → ∀ (st : St), Sat (Ω.cf 94 args st) (fun q => q = (pv_Expr E r, st))) {p96 : (Sl Expr) → Option ((Sl Expr))} (hp96 : ∀ {a0 : Sl Expr} {r : (Sl Expr)}, p96 a0 = some r → ∀ {args : List PV}, [PV.d (.sl (E.L_Expr a0.l) (E.X_Expr a0.x))] = args → ∀ (st : St), Sat (Ω.cf 96 args st) (fun q => q = (PV.d (.sl (E.L_Expr r.l) (E.X_Expr r.x)), st))) {a0 : Expr} {r : Expr} (h : Pb94 fu p86 p94 p96 a0 = some r) {args : List PV} (ha : [pv_Expr E a0] = args) (st : St) :
    Sat (Ω.cf 94 args st) (fun q => q = (pv_Expr E r, st)) := by
  subst ha
  rcases a0 with ⟨a0_Kind, a0_N, a0_S, ⟨a0_Args_l, a0_Args_x⟩, ⟨a0_Names_l, a0_Names_x⟩, ⟨a0_Vals_l, a0_Vals_x⟩, a0_Elem, ⟨a0_Key_l, a0_Key_x⟩, ⟨a0_Acts_l, a0_Acts_x⟩, a0_Site⟩
  rw [cf_body hΩ (f := 94) (fn := Try.f94) (x := c94) rfl rfl c94_ok rfl rfl]
  unfold Pb94 at h
  try dsimp only at h
  conv => arg 1; cbv
  obtain ⟨⟨r1_l, r1_x⟩, hx2, hz⟩ := Option.bind_eq_some_iff.1 h
  clear h
  have h := hz
  clear hz
  try dsimp only at h
  refine sat_call (hp96 hx2 (by (try clear h); subst_vars; rfl) _) ?_
  conv => arg 1; cbv
  refine sat_true (same_ok hΩ _) ?_
  conv => arg 1; cbv
  obtain ⟨⟨r3_l, r3_x⟩, hx4, hz⟩ := Option.bind_eq_some_iff.1 h
  clear h
  have h := hz
  clear hz
  try dsimp only at h
  refine sat_call (hp96 hx4 (by (try clear h); subst_vars; rfl) _) ?_
  conv => arg 1; cbv
  refine sat_true (same_ok hΩ _) ?_
  conv => arg 1; cbv
  obtain ⟨⟨r5_l, r5_x⟩, hx6, hz⟩ := Option.bind_eq_some_iff.1 h
  clear h
  have h := hz
  clear hz
  try dsimp only at h
  refine sat_call (hp96 hx6 (by (try clear h); subst_vars; rfl) _) ?_
  conv => arg 1; cbv
  refine sat_true (same_ok hΩ _) ?_
  conv => arg 1; cbv
  refine sat_tick hΩ ?_
  conv => arg 1; cbv
  obtain ⟨r8, hx7, hz⟩ := Option.bind_eq_some_iff.1 h
  clear h
  have h := hz
  clear hz
  obtain ⟨n9, hn10⟩ : ∃ n, ln r8 = n := ⟨_, rfl⟩
  refine sat_call (ok98 hΩ hE (st := ([X.Obj.box 103 [.d (.int .u8 a0_Kind), .d (.int .i64 a0_N), .d (.str a0_S), .d (.sl (E.L_Expr r1_l) (E.X_Expr r1_x)), .d (.sl (E.L_str a0_Names_l) (E.X_str a0_Names_x)), .d (.sl (E.L_Expr r3_l) (E.X_Expr r3_x)), .d (.int .u8 a0_Elem), .d (.sl (E.L_Expr r5_l) (E.X_Expr r5_x)), .d (.sl (E.L_Act a0_Acts_l) (E.X_Act a0_Acts_x)), .d (.str a0_Site)], X.Obj.box 103 [.d (.int .u8 0), .d (.int .i64 0), .d (.str ByteArray.empty), .d (.sl [] (some [])), .d (.sl [] (some [])), .d (.sl [] (some [])), .d (.int .u8 0), .d (.sl [] (some [])), .d (.sl [] (some [])), .d (.str ByteArray.empty)]] : List X.Obj) :: st) hx7 (by (try clear h); subst_vars; rfl) rfl hn10) ?_
  conv => arg 1; cbv
  refine sat_true (len_ok hΩ (ro_str hE) r8 (by first | rfl | ((try clear h); subst_vars; rfl) | ((try clear h); subst_vars; simp only [ln_set])) (by first | rfl | ((try clear h); subst_vars; rfl) | ((try clear h); subst_vars; simp only [ln_set]))) ?_
  conv => arg 1; cbv
  obtain ⟨⟨r11_l, r11_x⟩, hx12, hz⟩ := Option.bind_eq_some_iff.1 h
  clear h
  have h := hz
  clear hz
  try dsimp only at h
  refine sat_call (ok97 hΩ hE hx12 (by (try clear h); subst_vars; rfl) _) ?_
  conv => arg 1; cbv
  obtain ⟨⟨r13_l, r13_x⟩, hx14, hz⟩ := Option.bind_eq_some_iff.1 h
  clear h
  have h := hz
  clear hz
  try dsimp only at h
  refine sat_call (hp86 hx14 (by (try clear h); subst_vars; rfl) _) ?_
  conv => arg 1; cbv
  obtain rfl := Option.some.inj h
  subst_vars
  exact sat_pure rfl
set_option maxHeartbeats 4000000 in
theorem okb96 {Ω : Om} {E : Enc} (hΩ : real (call S) = Ω) (hE : theEnc = E) {fu : Nat} {p86 : (Sl Act) → Option ((Sl Act))} (hp86 : ∀ {a0 : Sl Act} {r : (Sl Act)}, p86 a0 = some r → ∀ {args : List PV}, [PV.d (.sl (E.L_Act a0.l) (E.X_Act a0.x))] = args → ∀ (st : St), Sat (Ω.cf 86 args st) (fun q => q = (PV.d (.sl (E.L_Act r.l) (E.X_Act r.x)), st))) {p94 : Expr → Option (Expr)} (hp94 : ∀ {a0 : Expr} {r : Expr}, p94 a0 = some r → ∀ {args : List PV}, [pv_Expr E a0] = args → ∀ (st : St), Sat (Ω.cf 94 args st) (fun q => q = (pv_Expr E r, st))) {p96 : (Sl Expr) → Option ((Sl Expr))} (hp96 : ∀ {a0 : Sl Expr} {r : (Sl Expr)}, p96 a0 = some r → ∀ {args : List PV}, [PV.d (.sl (E.L_Expr a0.l) (E.X_Expr a0.x))] = args → ∀ (st : St), Sat (Ω.cf 96 args st) (fun q => q = (PV.d (.sl (E.L_Expr r.l) (E.X_Expr r.x)), st))) {a0 : Sl Expr} {r : (Sl Expr)} (h : Pb96 fu p86 p94 p96 a0 = some r) {args : List PV} (ha : [PV.d (.sl (E.L_Expr a0.l) (E.X_Expr a0.x))] = args) (st : St) :
    Sat (Ω.cf 96 args st) (fun q => q = (PV.d (.sl (E.L_Expr r.l) (E.X_Expr r.x)), st)) := by
  subst ha
  rcases a0 with ⟨a0_l, a0_x⟩
  rw [cf_body hΩ (f := 96) (fn := Try.f96) (x := c96) rfl rfl c96_ok rfl rfl]
  unfold Pb96 at h
  try dsimp only at h
  conv => arg 1; cbv
  obtain ⟨r2, hx1, hz⟩ := Option.bind_eq_some_iff.1 h
  clear h
  have h := hz
  clear hz
  obtain ⟨n3, hn4⟩ : ∃ n, ln r2 = n := ⟨_, rfl⟩
  refine sat_call (ok99 hΩ hE (st := ([] : List X.Obj) :: st) hx1 (by (try clear h); subst_vars; rfl) rfl hn4) ?_
  conv => arg 1; cbv
  obtain ⟨q, hl17, hz⟩ := Option.bind_eq_some_iff.1 h
  clear h
  have h := hz
  clear hz
  refine sat_loop hΩ (fun (a : (List Expr) × Int) => (match a with | (l5, i6) => ([(0, PV.d (.sl (E.L_Expr a0_l) (E.X_Expr a0_x))), (2, PV.d (.sl [] (some []))), (3, PV.row 0 0 (ln l5)), (8, PV.d (.int .i64 n3)), (9, PV.d (.int .i64 i6))], ([X.Obj.row 103 10 (E.L_Expr l5) true none] : List X.Obj) :: st))) (fun (q : ((List Expr) × Int)) => (match q with | (o18, o19) => (.exit 0, [(0, PV.d (.sl (E.L_Expr a0_l) (E.X_Expr a0_x))), (2, PV.d (.sl [] (some []))), (3, PV.row 0 0 (ln o18)), (8, PV.d (.int .i64 n3)), (9, PV.d (.int .i64 o19))], ([X.Obj.row 103 10 (E.L_Expr o18) true none] : List X.Obj) :: st))) (r2, 0) hl17 (by first | rfl | ((try clear h); subst_vars; rfl) | ((try clear h); subst_vars; simp only [ln_set])) ?_ ?_
  · clear h hl17
    rintro ⟨l5, i6⟩ q h
    unfold P96_s0 at h
    dsimp only at h
    obtain ⟨ln_l5, hln_l5⟩ : ∃ n, ln l5 = n := ⟨_, rfl⟩
    simp only [hln_l5]
    conv => arg 1; cbv
    refine sat_in hΩ ?_
    conv => arg 1; cbv
    replace h := bif_cases h
    rcases h with ⟨hb7, h⟩ | ⟨hb7, h⟩
    · refine sat_brt (by first | exact hb7 | ((try clear h); subst_vars; first | exact hb7 | rfl)) ?_
      conv => arg 1; cbv
      refine sat_true (len_ok hΩ (ro_Expr hE) l5 (by first | rfl | ((try clear h); subst_vars; rfl) | ((try clear h); subst_vars; simp only [ln_set])) (by first | rfl | ((try clear h); subst_vars; rfl) | ((try clear h); subst_vars; simp only [ln_set]))) ?_
      conv => arg 1; cbv
      obtain ⟨⟨x8_Kind, x8_N, x8_S, ⟨x8_Args_l, x8_Args_x⟩, ⟨x8_Names_l, x8_Names_x⟩, ⟨x8_Vals_l, x8_Vals_x⟩, x8_Elem, ⟨x8_Key_l, x8_Key_x⟩, ⟨x8_Acts_l, x8_Acts_x⟩, x8_Site⟩, hx9, hz⟩ := Option.bind_eq_some_iff.1 h
      clear h
      have h := hz
      clear hz
      try dsimp only at h
      refine sat_bind (nth_ok hΩ (ro_Expr hE) hx9 (by first | rfl | ((try clear h); subst_vars; rfl)) (by first | rfl | ((try clear h); subst_vars; rfl))) ?_
      conv => arg 1; cbv
      refine sat_true (len_ok hΩ (ro_Expr hE) l5 (by first | rfl | ((try clear h); subst_vars; rfl) | ((try clear h); subst_vars; simp only [ln_set])) (by first | rfl | ((try clear h); subst_vars; rfl) | ((try clear h); subst_vars; simp only [ln_set]))) ?_
      conv => arg 1; cbv
      refine sat_bind (nth_ok hΩ (ro_Expr hE) hx9 (by first | rfl | ((try clear h); subst_vars; rfl)) (by first | rfl | ((try clear h); subst_vars; rfl))) ?_
      conv => arg 1; cbv
      obtain ⟨⟨r10_Kind, r10_N, r10_S, ⟨r10_Args_l, r10_Args_x⟩, ⟨r10_Names_l, r10_Names_x⟩, ⟨r10_Vals_l, r10_Vals_x⟩, r10_Elem, ⟨r10_Key_l, r10_Key_x⟩, ⟨r10_Acts_l, r10_Acts_x⟩, r10_Site⟩, hx11, hz⟩ := Option.bind_eq_some_iff.1 h
      clear h
      have h := hz
      clear hz
      try dsimp only at h
      refine sat_call (hp94 hx11 (by (try clear h); subst_vars; rfl) _) ?_
      conv => arg 1; cbv
      refine sat_true (len_ok hΩ (ro_Expr hE) l5 (by first | rfl | ((try clear h); subst_vars; rfl) | ((try clear h); subst_vars; simp only [ln_set])) (by first | rfl | ((try clear h); subst_vars; rfl) | ((try clear h); subst_vars; simp only [ln_set]))) ?_
      conv => arg 1; cbv
      obtain ⟨⟨x12_Kind, x12_N, x12_S, ⟨x12_Args_l, x12_Args_x⟩, ⟨x12_Names_l, x12_Names_x⟩, ⟨x12_Vals_l, x12_Vals_x⟩, x12_Elem, ⟨x12_Key_l, x12_Key_x⟩, ⟨x12_Acts_l, x12_Acts_x⟩, x12_Site⟩, hx13, hz⟩ := Option.bind_eq_some_iff.1 h
      clear h
      have h := hz
      clear hz
      try dsimp only at h
      refine sat_bind (nth_ok hΩ (ro_Expr hE) hx13 (by first | rfl | ((try clear h); subst_vars; rfl)) (by first | rfl | ((try clear h); subst_vars; rfl))) ?_
      conv => arg 1; cbv
      refine sat_true (len_ok hΩ (ro_Expr hE) l5 (by first | rfl | ((try clear h); subst_vars; rfl) | ((try clear h); subst_vars; simp only [ln_set])) (by first | rfl | ((try clear h); subst_vars; rfl) | ((try clear h); subst_vars; simp only [ln_set]))) ?_
      conv => arg 1; cbv
      refine sat_bind (nth_ok hΩ (ro_Expr hE) hx13 (by first | rfl | ((try clear h); subst_vars; rfl)) (by first | rfl | ((try clear h); subst_vars; rfl))) ?_
      conv => arg 1; cbv
      refine sat_set hΩ (ro_Expr hE) l5 i6 (Expr.mk r10_Kind r10_N r10_S (Sl.mk r10_Args_l r10_Args_x) (Sl.mk r10_Names_l r10_Names_x) (Sl.mk r10_Vals_l r10_Vals_x) r10_Elem (Sl.mk r10_Key_l r10_Key_x) (Sl.mk r10_Acts_l r10_Acts_x) r10_Site) (by first | rfl | ((try clear h); subst_vars; rfl)) (by first | rfl | ((try clear h); subst_vars; rfl)) (by first | rfl | ((try clear h); subst_vars; rfl)) fun l14 hl15 => ?_
      conv => arg 1; cbv
      obtain rfl := Option.some.inj h
      subst_vars
      first | exact sat_pure ⟨rfl, rfl, rfl⟩ | (refine sat_pure ⟨rfl, ?_, ?_⟩ <;> first | rfl | (dsimp only; simp only [ln_set]; rfl))
    · refine sat_brf (by first | exact hb7 | ((try clear h); subst_vars; first | exact hb7 | rfl)) ?_
      conv => arg 1; cbv
      obtain rfl := Option.some.inj h
      subst_vars
      first | exact sat_pure (.inl ⟨⟨_, rfl⟩, rfl⟩) | (refine sat_pure (.inl ⟨⟨_, rfl⟩, ?_⟩); dsimp only; simp only [ln_set]; rfl)
  · clear hl17
    rcases q with ⟨o18, o19⟩
    dsimp only at h
    obtain ⟨ln_o18, hln_o18⟩ : ∃ n, ln o18 = n := ⟨_, rfl⟩
    simp only [hln_o18]
    conv => arg 1; cbv
    refine sat_true (len_ok hΩ (ro_Expr hE) o18 (by first | rfl | ((try clear h); subst_vars; rfl) | ((try clear h); subst_vars; simp only [ln_set])) (by first | rfl | ((try clear h); subst_vars; rfl) | ((try clear h); subst_vars; simp only [ln_set]))) ?_
    conv => arg 1; cbv
    obtain ⟨⟨r20_l, r20_x⟩, hx21, hz⟩ := Option.bind_eq_some_iff.1 h
    clear h
    have h := hz
    clear hz
    try dsimp only at h
    refine sat_call (ok100 hΩ hE hx21 (by (try clear h); subst_vars; rfl) _) ?_
    conv => arg 1; cbv
    obtain rfl := Option.some.inj h
    subst_vars
    exact sat_pure rfl
theorem okr86 {Ω : Om} {E : Enc} (hΩ : real (call S) = Ω) (hE : theEnc = E) : ∀ fu,
    (∀ {a0 : Sl Act} {r : (Sl Act)}, P86 fu a0 = some r → ∀ {args : List PV}, [PV.d (.sl (E.L_Act a0.l) (E.X_Act a0.x))] = args → ∀ (st : St), Sat (Ω.cf 86 args st) (fun q => q = (PV.d (.sl (E.L_Act r.l) (E.X_Act r.x)), st))) ∧
    (∀ {a0 : Expr} {r : Expr}, P94 fu a0 = some r → ∀ {args : List PV}, [pv_Expr E a0] = args → ∀ (st : St), Sat (Ω.cf 94 args st) (fun q => q = (pv_Expr E r, st))) ∧
    (∀ {a0 : Sl Expr} {r : (Sl Expr)}, P96 fu a0 = some r → ∀ {args : List PV}, [PV.d (.sl (E.L_Expr a0.l) (E.X_Expr a0.x))] = args → ∀ (st : St), Sat (Ω.cf 96 args st) (fun q => q = (PV.d (.sl (E.L_Expr r.l) (E.X_Expr r.x)), st))) := by
  intro fu
  induction fu with
  | zero => exact ⟨(fun h => (by cases h)), (fun h => (by cases h)), (fun h => (by cases h))⟩
  | succ fu ih =>
    obtain ⟨i86, i94, i96⟩ := ih
    exact ⟨(fun h => @fun args ha st => okb86 (fu := fu) hΩ hE i86 i94 i96 h ha st), (fun h => @fun args ha st => okb94 (fu := fu) hΩ hE i86 i94 i96 h ha st), (fun h => @fun args ha st => okb96 (fu := fu) hΩ hE i86 i94 i96 h ha st)⟩
theorem ok86 {Ω : Om} {E : Enc} (hΩ : real (call S) = Ω) (hE : theEnc = E) {fu : Nat} : ∀ {a0 : Sl Act} {r : (Sl Act)}, P86 fu a0 = some r → ∀ {args : List PV}, [PV.d (.sl (E.L_Act a0.l) (E.X_Act a0.x))] = args → ∀ (st : St), Sat (Ω.cf 86 args st) (fun q => q = (PV.d (.sl (E.L_Act r.l) (E.X_Act r.x)), st)) := (okr86 hΩ hE fu).1
theorem ok94 {Ω : Om} {E : Enc} (hΩ : real (call S) = Ω) (hE : theEnc = E) {fu : Nat} : ∀ {a0 : Expr} {r : Expr}, P94 fu a0 = some r → ∀ {args : List PV}, [pv_Expr E a0] = args → ∀ (st : St), Sat (Ω.cf 94 args st) (fun q => q = (pv_Expr E r, st)) := (okr86 hΩ hE fu).2.1
theorem ok96 {Ω : Om} {E : Enc} (hΩ : real (call S) = Ω) (hE : theEnc = E) {fu : Nat} : ∀ {a0 : Sl Expr} {r : (Sl Expr)}, P96 fu a0 = some r → ∀ {args : List PV}, [PV.d (.sl (E.L_Expr a0.l) (E.X_Expr a0.x))] = args → ∀ (st : St), Sat (Ω.cf 96 args st) (fun q => q = (PV.d (.sl (E.L_Expr r.l) (E.X_Expr r.x)), st)) := (okr86 hΩ hE fu).2.2
set_option maxHeartbeats 4000000 in
theorem ok65 {Ω : Om} {E : Enc} (hΩ : real (call S) = Ω) (hE : theEnc = E) {fu : Nat} {a0 : Cell} {r : Cell} (h : P65 fu a0 = some r) {args : List PV} (ha : [pv_Cell E a0] = args) (st : St) :
    Sat (Ω.cf 65 args st) (fun q => q = (pv_Cell E r, st)) := by
  subst ha
  rcases a0 with ⟨a0_Kind, a0_Name, ⟨a0_Value__Kind, a0_Value__N, a0_Value__S, ⟨a0_Value__L_l, a0_Value__L_x⟩, ⟨a0_Value__F_l, a0_Value__F_x⟩, a0_Value__Elem, a0_Value__Key, a0_Value__HasKey⟩, ⟨a0_Next_Kind, a0_Next_N, a0_Next_S, ⟨a0_Next_L_l, a0_Next_L_x⟩, ⟨a0_Next_F_l, a0_Next_F_x⟩, a0_Next_Elem, a0_Next_Key, a0_Next_HasKey⟩, ⟨a0_Deps_l, a0_Deps_x⟩, ⟨a0_Do_l, a0_Do_x⟩, ⟨a0_Undo_l, a0_Undo_x⟩, ⟨a0_Env_l, a0_Env_x⟩, a0_Runs, a0_Ran, ⟨a0_Old_l, a0_Old_x⟩, ⟨a0_Past_l, a0_Past_x⟩⟩
  rw [cf_body hΩ (f := 65) (fn := Try.f65) (x := c65) rfl rfl c65_ok rfl rfl]
  unfold P65 at h
  try dsimp only at h
  conv => arg 1; cbv
  obtain ⟨⟨r1_Kind, r1_N, r1_S, ⟨r1_L_l, r1_L_x⟩, ⟨r1_F_l, r1_F_x⟩, r1_Elem, r1_Key, r1_HasKey⟩, hx2, hz⟩ := Option.bind_eq_some_iff.1 h
  clear h
  have h := hz
  clear hz
  try dsimp only at h
  refine sat_call (ok26 hΩ hE hx2 (by (try clear h); subst_vars; rfl) _) ?_
  conv => arg 1; cbv
  refine sat_true (same_ok hΩ _) ?_
  conv => arg 1; cbv
  obtain ⟨⟨r3_Kind, r3_N, r3_S, ⟨r3_L_l, r3_L_x⟩, ⟨r3_F_l, r3_F_x⟩, r3_Elem, r3_Key, r3_HasKey⟩, hx4, hz⟩ := Option.bind_eq_some_iff.1 h
  clear h
  have h := hz
  clear hz
  try dsimp only at h
  refine sat_call (ok26 hΩ hE hx4 (by (try clear h); subst_vars; rfl) _) ?_
  conv => arg 1; cbv
  refine sat_true (same_ok hΩ _) ?_
  conv => arg 1; cbv
  obtain ⟨⟨r5_l, r5_x⟩, hx6, hz⟩ := Option.bind_eq_some_iff.1 h
  clear h
  have h := hz
  clear hz
  try dsimp only at h
  refine sat_call (ok50 hΩ hE hx6 (by (try clear h); subst_vars; rfl) _) ?_
  conv => arg 1; cbv
  obtain ⟨⟨r7_l, r7_x⟩, hx8, hz⟩ := Option.bind_eq_some_iff.1 h
  clear h
  have h := hz
  clear hz
  try dsimp only at h
  refine sat_call (ok86 hΩ hE hx8 (by (try clear h); subst_vars; rfl) _) ?_
  conv => arg 1; cbv
  refine sat_true (same_ok hΩ _) ?_
  conv => arg 1; cbv
  obtain ⟨⟨r9_l, r9_x⟩, hx10, hz⟩ := Option.bind_eq_some_iff.1 h
  clear h
  have h := hz
  clear hz
  try dsimp only at h
  refine sat_call (ok86 hΩ hE hx10 (by (try clear h); subst_vars; rfl) _) ?_
  conv => arg 1; cbv
  refine sat_true (same_ok hΩ _) ?_
  conv => arg 1; cbv
  obtain ⟨⟨r11_l, r11_x⟩, hx12, hz⟩ := Option.bind_eq_some_iff.1 h
  clear h
  have h := hz
  clear hz
  try dsimp only at h
  refine sat_call (ok86 hΩ hE hx12 (by (try clear h); subst_vars; rfl) _) ?_
  conv => arg 1; cbv
  refine sat_true (same_ok hΩ _) ?_
  conv => arg 1; cbv
  refine sat_tick hΩ ?_
  conv => arg 1; cbv
  obtain ⟨⟨r13_l, r13_x⟩, hx14, hz⟩ := Option.bind_eq_some_iff.1 h
  clear h
  have h := hz
  clear hz
  try dsimp only at h
  refine sat_call (ok24 hΩ hE hx14 (by (try clear h); subst_vars; rfl) _) ?_
  conv => arg 1; cbv
  refine sat_true (same_ok hΩ _) ?_
  conv => arg 1; cbv
  obtain ⟨⟨r15_l, r15_x⟩, hx16, hz⟩ := Option.bind_eq_some_iff.1 h
  clear h
  have h := hz
  clear hz
  try dsimp only at h
  refine sat_call (ok24 hΩ hE hx16 (by (try clear h); subst_vars; rfl) _) ?_
  conv => arg 1; cbv
  refine sat_true (same_ok hΩ _) ?_
  conv => arg 1; cbv
  obtain rfl := Option.some.inj h
  subst_vars
  exact sat_pure rfl
set_option maxHeartbeats 4000000 in
theorem ok66 {Ω : Om} {E : Enc} (hΩ : real (call S) = Ω) (hE : theEnc = E) {fu : Nat} {a0 : List Cell} {tz : Nat} {tn : Int} {tcp : Option Int} {r : (List Cell)} (h : P66 fu a0 = some r) {args : List PV} (ha : [PV.row 0 tz tn] = args) {st0 st : St} (ht0 : ln a0 = tn) (ht1 : X.look st0 0 tz = some (X.Obj.row 61 26 (E.L_Cell a0) true tcp)) (ht2 : X.setO st0 0 tz X.Obj.void = st) (hH : X.hasL st 0 = true) {n : Int} (hn : ln r = n) :
    Sat (Ω.cf 66 args st0) (fun q => q = (PV.row 0 (X.numO st 0) n, X.addO st 0 (X.Obj.row 61 26 (E.L_Cell r) true none))) := by
  subst ha
  rw [cf_body hΩ (f := 66) (fn := Try.f66) (x := c66) rfl rfl c66_ok rfl rfl]
  unfold P66 at h
  try dsimp only at h
  conv => arg 1; cbv
  refine sat_rowfar hΩ ht1 ?_
  conv => arg 1; cbv
  refine sat_true (len_ok hΩ (ro_Cell hE) a0 rfl ht0) ?_
  conv => arg 1; cbv
  refine sat_setfar hΩ ht2 ?_
  conv => arg 1; cbv
  refine sat_nil hΩ (ro_Cell hE) fun l1 hl2 => ?_
  conv => arg 1; cbv
  refine sat_true (len_ok hΩ (ro_Cell hE) a0 (by first | rfl | ((try clear h); subst_vars; rfl) | ((try clear h); subst_vars; simp only [ln_set])) (by first | rfl | ((try clear h); subst_vars; rfl) | ((try clear h); subst_vars; simp only [ln_set]))) ?_
  conv => arg 1; cbv
  replace h := bif_some h
  obtain ⟨hb3, h⟩ := h
  refine sat_true (by first | exact hb3 | ((try clear h); subst_vars; first | exact hb3 | rfl)) ?_
  conv => arg 1; cbv
  replace h := bif_some h
  obtain ⟨hb4, h⟩ := h
  refine sat_true (by first | exact hb4 | ((try clear h); subst_vars; first | exact hb4 | rfl)) ?_
  conv => arg 1; cbv
  replace h := bif_some h
  obtain ⟨hb5, h⟩ := h
  refine sat_true (by first | exact hb5 | ((try clear h); subst_vars; first | exact hb5 | rfl)) ?_
  conv => arg 1; cbv
  refine sat_cut hΩ (ro_Cell hE) a0 0 (ln a0) (by first | rfl | ((try clear h); subst_vars; rfl)) (by first | rfl | ((try clear h); subst_vars; rfl)) (by first | rfl | ((try clear h); subst_vars; rfl)) fun l6 hl7 => ?_
  conv => arg 1; cbv
  obtain ⟨n8, hn9⟩ : ∃ n, ln (cut a0 0 (ln a0)) = n := ⟨_, rfl⟩
  rw [show tn = n8 from by (try clear h); subst_vars; exact ln_cut0 (by assumption) (by assumption)]
  refine sat_addfar' hΩ hH fun kk st2 hk2 hs2 => ?_
  conv => arg 1; cbv
  obtain rfl := Option.some.inj h
  subst_vars
  exact sat_pure rfl
set_option maxHeartbeats 4000000 in
theorem ok42 {Ω : Om} {E : Enc} (hΩ : real (call S) = Ω) (hE : theEnc = E) {fu : Nat} {a0 : Sl Cell} {r : (List Cell)} (h : P42 fu a0 = some r) {args : List PV} (ha : [PV.d (.sl (E.L_Cell a0.l) (E.X_Cell a0.x))] = args) {st : St} (hH : X.hasL st 0 = true) {n : Int} (hn : ln r = n) :
    Sat (Ω.cf 42 args st) (fun q => q = (PV.row 0 (X.numO st 0) n, X.addO st 0 (X.Obj.row 61 26 (E.L_Cell r) true none))) := by
  subst ha
  rcases a0 with ⟨a0_l, a0_x⟩
  rw [cf_body hΩ (f := 42) (fn := Try.f42) (x := c42) rfl rfl c42_ok rfl rfl]
  unfold P42 at h
  try dsimp only at h
  conv => arg 1; cbv
  refine sat_nil hΩ (ro_Cell hE) fun l1 hl2 => ?_
  conv => arg 1; cbv
  obtain ⟨r4, hx3, hz⟩ := Option.bind_eq_some_iff.1 h
  clear h
  have h := hz
  clear hz
  obtain ⟨n5, hn6⟩ : ∃ n, ln r4 = n := ⟨_, rfl⟩
  refine sat_call (ok64 hΩ hE (st := ([X.Obj.row 61 26 (E.L_Cell l1) true none] : List X.Obj) :: st) hx3 (by (try clear h); subst_vars; rfl) rfl hn6) ?_
  conv => arg 1; cbv
  obtain ⟨q, hl19, hz⟩ := Option.bind_eq_some_iff.1 h
  clear h
  have h := hz
  clear hz
  refine sat_loop hΩ (fun (a : (List Cell) × Int) => (match a with | (l7, i8) => ([(0, PV.d (.sl (E.L_Cell a0_l) (E.X_Cell a0_x))), (2, PV.row 0 0 0), (3, PV.row 0 1 (ln l7)), (8, PV.d (.int .i64 n5)), (9, PV.d (.int .i64 i8))], ([X.Obj.row 61 26 (E.L_Cell l1) true none, X.Obj.row 61 26 (E.L_Cell l7) true none] : List X.Obj) :: st))) (fun (q : ((List Cell) × Int)) => (match q with | (o20, o21) => (.exit 0, [(0, PV.d (.sl (E.L_Cell a0_l) (E.X_Cell a0_x))), (2, PV.row 0 0 0), (3, PV.row 0 1 (ln o20)), (8, PV.d (.int .i64 n5)), (9, PV.d (.int .i64 o21))], ([X.Obj.row 61 26 (E.L_Cell l1) true none, X.Obj.row 61 26 (E.L_Cell o20) true none] : List X.Obj) :: st))) (r4, 0) hl19 (by first | rfl | ((try clear h); subst_vars; rfl) | ((try clear h); subst_vars; simp only [ln_set])) ?_ ?_
  · clear h hl19
    rintro ⟨l7, i8⟩ q h
    unfold P42_s0 at h
    dsimp only at h
    obtain ⟨ln_l7, hln_l7⟩ : ∃ n, ln l7 = n := ⟨_, rfl⟩
    simp only [hln_l7]
    conv => arg 1; cbv
    refine sat_in hΩ ?_
    conv => arg 1; cbv
    replace h := bif_cases h
    rcases h with ⟨hb9, h⟩ | ⟨hb9, h⟩
    · refine sat_brt (by first | exact hb9 | ((try clear h); subst_vars; first | exact hb9 | rfl)) ?_
      conv => arg 1; cbv
      refine sat_true (len_ok hΩ (ro_Cell hE) l7 (by first | rfl | ((try clear h); subst_vars; rfl) | ((try clear h); subst_vars; simp only [ln_set])) (by first | rfl | ((try clear h); subst_vars; rfl) | ((try clear h); subst_vars; simp only [ln_set]))) ?_
      conv => arg 1; cbv
      obtain ⟨⟨x10_Kind, x10_Name, ⟨x10_Value__Kind, x10_Value__N, x10_Value__S, ⟨x10_Value__L_l, x10_Value__L_x⟩, ⟨x10_Value__F_l, x10_Value__F_x⟩, x10_Value__Elem, x10_Value__Key, x10_Value__HasKey⟩, ⟨x10_Next_Kind, x10_Next_N, x10_Next_S, ⟨x10_Next_L_l, x10_Next_L_x⟩, ⟨x10_Next_F_l, x10_Next_F_x⟩, x10_Next_Elem, x10_Next_Key, x10_Next_HasKey⟩, ⟨x10_Deps_l, x10_Deps_x⟩, ⟨x10_Do_l, x10_Do_x⟩, ⟨x10_Undo_l, x10_Undo_x⟩, ⟨x10_Env_l, x10_Env_x⟩, x10_Runs, x10_Ran, ⟨x10_Old_l, x10_Old_x⟩, ⟨x10_Past_l, x10_Past_x⟩⟩, hx11, hz⟩ := Option.bind_eq_some_iff.1 h
      clear h
      have h := hz
      clear hz
      try dsimp only at h
      refine sat_bind (nth_ok hΩ (ro_Cell hE) hx11 (by first | rfl | ((try clear h); subst_vars; rfl)) (by first | rfl | ((try clear h); subst_vars; rfl))) ?_
      conv => arg 1; cbv
      refine sat_true (len_ok hΩ (ro_Cell hE) l7 (by first | rfl | ((try clear h); subst_vars; rfl) | ((try clear h); subst_vars; simp only [ln_set])) (by first | rfl | ((try clear h); subst_vars; rfl) | ((try clear h); subst_vars; simp only [ln_set]))) ?_
      conv => arg 1; cbv
      refine sat_bind (nth_ok hΩ (ro_Cell hE) hx11 (by first | rfl | ((try clear h); subst_vars; rfl)) (by first | rfl | ((try clear h); subst_vars; rfl))) ?_
      conv => arg 1; cbv
      obtain ⟨⟨r12_Kind, r12_Name, ⟨r12_Value__Kind, r12_Value__N, r12_Value__S, ⟨r12_Value__L_l, r12_Value__L_x⟩, ⟨r12_Value__F_l, r12_Value__F_x⟩, r12_Value__Elem, r12_Value__Key, r12_Value__HasKey⟩, ⟨r12_Next_Kind, r12_Next_N, r12_Next_S, ⟨r12_Next_L_l, r12_Next_L_x⟩, ⟨r12_Next_F_l, r12_Next_F_x⟩, r12_Next_Elem, r12_Next_Key, r12_Next_HasKey⟩, ⟨r12_Deps_l, r12_Deps_x⟩, ⟨r12_Do_l, r12_Do_x⟩, ⟨r12_Undo_l, r12_Undo_x⟩, ⟨r12_Env_l, r12_Env_x⟩, r12_Runs, r12_Ran, ⟨r12_Old_l, r12_Old_x⟩, ⟨r12_Past_l, r12_Past_x⟩⟩, hx13, hz⟩ := Option.bind_eq_some_iff.1 h
      clear h
      have h := hz
      clear hz
      try dsimp only at h
      refine sat_call (ok65 hΩ hE hx13 (by (try clear h); subst_vars; rfl) _) ?_
      conv => arg 1; cbv
      refine sat_true (len_ok hΩ (ro_Cell hE) l7 (by first | rfl | ((try clear h); subst_vars; rfl) | ((try clear h); subst_vars; simp only [ln_set])) (by first | rfl | ((try clear h); subst_vars; rfl) | ((try clear h); subst_vars; simp only [ln_set]))) ?_
      conv => arg 1; cbv
      obtain ⟨⟨x14_Kind, x14_Name, ⟨x14_Value__Kind, x14_Value__N, x14_Value__S, ⟨x14_Value__L_l, x14_Value__L_x⟩, ⟨x14_Value__F_l, x14_Value__F_x⟩, x14_Value__Elem, x14_Value__Key, x14_Value__HasKey⟩, ⟨x14_Next_Kind, x14_Next_N, x14_Next_S, ⟨x14_Next_L_l, x14_Next_L_x⟩, ⟨x14_Next_F_l, x14_Next_F_x⟩, x14_Next_Elem, x14_Next_Key, x14_Next_HasKey⟩, ⟨x14_Deps_l, x14_Deps_x⟩, ⟨x14_Do_l, x14_Do_x⟩, ⟨x14_Undo_l, x14_Undo_x⟩, ⟨x14_Env_l, x14_Env_x⟩, x14_Runs, x14_Ran, ⟨x14_Old_l, x14_Old_x⟩, ⟨x14_Past_l, x14_Past_x⟩⟩, hx15, hz⟩ := Option.bind_eq_some_iff.1 h
      clear h
      have h := hz
      clear hz
      try dsimp only at h
      refine sat_bind (nth_ok hΩ (ro_Cell hE) hx15 (by first | rfl | ((try clear h); subst_vars; rfl)) (by first | rfl | ((try clear h); subst_vars; rfl))) ?_
      conv => arg 1; cbv
      refine sat_true (len_ok hΩ (ro_Cell hE) l7 (by first | rfl | ((try clear h); subst_vars; rfl) | ((try clear h); subst_vars; simp only [ln_set])) (by first | rfl | ((try clear h); subst_vars; rfl) | ((try clear h); subst_vars; simp only [ln_set]))) ?_
      conv => arg 1; cbv
      refine sat_bind (nth_ok hΩ (ro_Cell hE) hx15 (by first | rfl | ((try clear h); subst_vars; rfl)) (by first | rfl | ((try clear h); subst_vars; rfl))) ?_
      conv => arg 1; cbv
      refine sat_set hΩ (ro_Cell hE) l7 i8 (Cell.mk r12_Kind r12_Name (Value.mk r12_Value__Kind r12_Value__N r12_Value__S (Sl.mk r12_Value__L_l r12_Value__L_x) (Sl.mk r12_Value__F_l r12_Value__F_x) r12_Value__Elem r12_Value__Key r12_Value__HasKey) (Value.mk r12_Next_Kind r12_Next_N r12_Next_S (Sl.mk r12_Next_L_l r12_Next_L_x) (Sl.mk r12_Next_F_l r12_Next_F_x) r12_Next_Elem r12_Next_Key r12_Next_HasKey) (Sl.mk r12_Deps_l r12_Deps_x) (Sl.mk r12_Do_l r12_Do_x) (Sl.mk r12_Undo_l r12_Undo_x) (Sl.mk r12_Env_l r12_Env_x) r12_Runs r12_Ran (Sl.mk r12_Old_l r12_Old_x) (Sl.mk r12_Past_l r12_Past_x)) (by first | rfl | ((try clear h); subst_vars; rfl)) (by first | rfl | ((try clear h); subst_vars; rfl)) (by first | rfl | ((try clear h); subst_vars; rfl)) fun l16 hl17 => ?_
      conv => arg 1; cbv
      obtain rfl := Option.some.inj h
      subst_vars
      first | exact sat_pure ⟨rfl, rfl, rfl⟩ | (refine sat_pure ⟨rfl, ?_, ?_⟩ <;> first | rfl | (dsimp only; simp only [ln_set]; rfl))
    · refine sat_brf (by first | exact hb9 | ((try clear h); subst_vars; first | exact hb9 | rfl)) ?_
      conv => arg 1; cbv
      obtain rfl := Option.some.inj h
      subst_vars
      first | exact sat_pure (.inl ⟨⟨_, rfl⟩, rfl⟩) | (refine sat_pure (.inl ⟨⟨_, rfl⟩, ?_⟩); dsimp only; simp only [ln_set]; rfl)
  · clear hl19
    rcases q with ⟨o20, o21⟩
    dsimp only at h
    obtain ⟨ln_o20, hln_o20⟩ : ∃ n, ln o20 = n := ⟨_, rfl⟩
    simp only [hln_o20]
    conv => arg 1; cbv
    obtain ⟨r23, hx22, hz⟩ := Option.bind_eq_some_iff.1 h
    clear h
    have h := hz
    clear hz
    obtain ⟨n24, hn25⟩ : ∃ n, ln r23 = n := ⟨_, rfl⟩
    refine sat_call (ok66 hΩ hE (st0 := ([X.Obj.row 61 26 (E.L_Cell l1) true none, X.Obj.row 61 26 (E.L_Cell o20) true none] : List X.Obj) :: st) (st := ([X.Obj.row 61 26 (E.L_Cell l1) true none, X.Obj.void] : List X.Obj) :: st) (tz := 1) (tn := ln_o20) (tcp := none) hx22 (by (try clear h); subst_vars; rfl) (by (try clear h); subst_vars; rfl) rfl rfl rfl hn25) ?_
    conv => arg 1; cbv
    refine sat_addfar' hΩ hH fun kk st2 hk2 hs2 => ?_
    conv => arg 1; cbv
    obtain rfl := Option.some.inj h
    subst_vars
    exact sat_pure rfl
set_option maxHeartbeats 4000000 in
theorem ok18 {Ω : Om} {E : Enc} (hΩ : real (call S) = Ω) (hE : theEnc = E) {fu : Nat} {a0 : Sl Cell} {a1 : ByteArray} {a2 : Value} {r : (Sl Cell) × Bool} (h : P18 fu a0 a1 a2 = some r) {args : List PV} (ha : [PV.d (.sl (E.L_Cell a0.l) (E.X_Cell a0.x)), PV.d (.str a1), pv_Value E a2] = args) (st : St) :
    Sat (Ω.cf 18 args st) (fun q => q = (PV.tup [PV.d (.sl (E.L_Cell r.1.l) (E.X_Cell r.1.x)), PV.d (.bool r.2)], st)) := by
  subst ha
  rcases a0 with ⟨a0_l, a0_x⟩
  rcases a2 with ⟨a2_Kind, a2_N, a2_S, ⟨a2_L_l, a2_L_x⟩, ⟨a2_F_l, a2_F_x⟩, a2_Elem, a2_Key, a2_HasKey⟩
  rw [cf_body hΩ (f := 18) (fn := Try.f18) (x := c18) rfl rfl c18_ok rfl rfl]
  unfold P18 at h
  try dsimp only at h
  conv => arg 1; cbv
  obtain ⟨r1, hx2, hz⟩ := Option.bind_eq_some_iff.1 h
  clear h
  have h := hz
  clear hz
  refine sat_call (ok40 hΩ hE hx2 (by (try clear h); subst_vars; rfl) _) ?_
  conv => arg 1; cbv
  obtain ⟨q, hq19, hz⟩ := Option.bind_eq_some_iff.1 h
  clear h
  have h := hz
  clear hz
  refine sat_grp hΩ ((fun (q : Bool) => (match q with | i6 => ([(0, PV.d (.sl (E.L_Cell a0_l) (E.X_Cell a0_x))), (1, PV.d (.str a1)), (2, PV.agg [.d (.int .u8 a2_Kind), .d (.int .i64 a2_N), .d (.str a2_S), .d (.sl (E.L_Value a2_L_l) (E.X_Value a2_L_x)), .d (.sl (E.L_Field a2_F_l) (E.X_Field a2_F_x)), .d (.int .u8 a2_Elem), .d (.str a2_Key), .d (.bool a2_HasKey)]), (5, PV.ptr 0 0 0), (6, PV.d (.sl [] (some []))), (7, PV.d (.bool false)), (8, PV.d (.int .i64 r1)), (19, PV.d (.bool i6))], ([X.Obj.box 27 [.d (.int .u8 a2_Kind), .d (.int .i64 a2_N), .d (.str a2_S), .d (.sl (E.L_Value a2_L_l) (E.X_Value a2_L_x)), .d (.sl (E.L_Field a2_F_l) (E.X_Field a2_F_x)), .d (.int .u8 a2_Elem), .d (.str a2_Key), .d (.bool a2_HasKey)]] : List X.Obj) :: st))) q) (fun k hk => ?_) ?_
  · clear h
    have h := hq19
    clear hq19
    conv => arg 1; cbv
    replace h := bif_cases h
    rcases h with ⟨hb3, h⟩ | ⟨hb3, h⟩
    · refine sat_brt (by first | exact hb3 | ((try clear h); subst_vars; first | exact hb3 | rfl)) ?_
      conv => arg 1; cbv
      obtain ⟨r4, hx5, hz⟩ := Option.bind_eq_some_iff.1 h
      clear h
      have h := hz
      clear hz
      refine sat_call (ok41 hΩ hE hx5 (by (try clear h); subst_vars; rfl) _) ?_
      conv => arg 1; cbv
      obtain rfl := Option.some.inj h
      subst_vars
      first | exact hk | (simp only [ln_set] at hk ⊢; exact hk)
    · refine sat_brf (by first | exact hb3 | ((try clear h); subst_vars; first | exact hb3 | rfl)) ?_
      conv => arg 1; cbv
      obtain rfl := Option.some.inj h
      subst_vars
      first | exact hk | (simp only [ln_set] at hk ⊢; exact hk)
  · clear hq19
    obtain ⟨i6, hqq⟩ : ∃ x, x = q := ⟨_, rfl⟩
    subst hqq
    try dsimp only at h
    conv => arg 1; cbv
    refine sat_in hΩ ?_
    conv => arg 1; cbv
    replace h := bif_cases h
    rcases h with ⟨hb7, h⟩ | ⟨hb7, h⟩
    · refine sat_brt (by first | exact hb7 | ((try clear h); subst_vars; first | exact hb7 | rfl)) ?_
      conv => arg 1; cbv
      obtain rfl := Option.some.inj h
      subst_vars
      exact sat_pure rfl
    · refine sat_brf (by first | exact hb7 | ((try clear h); subst_vars; first | exact hb7 | rfl)) ?_
      conv => arg 1; cbv
      obtain ⟨r9, hx8, hz⟩ := Option.bind_eq_some_iff.1 h
      clear h
      have h := hz
      clear hz
      obtain ⟨n10, hn11⟩ : ∃ n, ln r9 = n := ⟨_, rfl⟩
      refine sat_call (ok42 hΩ hE (st := ([X.Obj.box 27 [.d (.int .u8 a2_Kind), .d (.int .i64 a2_N), .d (.str a2_S), .d (.sl (E.L_Value a2_L_l) (E.X_Value a2_L_x)), .d (.sl (E.L_Field a2_F_l) (E.X_Field a2_F_x)), .d (.int .u8 a2_Elem), .d (.str a2_Key), .d (.bool a2_HasKey)]] : List X.Obj) :: st) hx8 (by (try clear h); subst_vars; rfl) rfl hn11) ?_
      conv => arg 1; cbv
      obtain ⟨⟨r12_Kind, r12_N, r12_S, ⟨r12_L_l, r12_L_x⟩, ⟨r12_F_l, r12_F_x⟩, r12_Elem, r12_Key, r12_HasKey⟩, hx13, hz⟩ := Option.bind_eq_some_iff.1 h
      clear h
      have h := hz
      clear hz
      try dsimp only at h
      refine sat_call (ok26 hΩ hE hx13 (by (try clear h); subst_vars; rfl) _) ?_
      conv => arg 1; cbv
      refine sat_true (len_ok hΩ (ro_Cell hE) r9 (by first | rfl | ((try clear h); subst_vars; rfl) | ((try clear h); subst_vars; simp only [ln_set])) (by first | rfl | ((try clear h); subst_vars; rfl) | ((try clear h); subst_vars; simp only [ln_set]))) ?_
      conv => arg 1; cbv
      obtain ⟨⟨x14_Kind, x14_Name, ⟨x14_Value__Kind, x14_Value__N, x14_Value__S, ⟨x14_Value__L_l, x14_Value__L_x⟩, ⟨x14_Value__F_l, x14_Value__F_x⟩, x14_Value__Elem, x14_Value__Key, x14_Value__HasKey⟩, ⟨x14_Next_Kind, x14_Next_N, x14_Next_S, ⟨x14_Next_L_l, x14_Next_L_x⟩, ⟨x14_Next_F_l, x14_Next_F_x⟩, x14_Next_Elem, x14_Next_Key, x14_Next_HasKey⟩, ⟨x14_Deps_l, x14_Deps_x⟩, ⟨x14_Do_l, x14_Do_x⟩, ⟨x14_Undo_l, x14_Undo_x⟩, ⟨x14_Env_l, x14_Env_x⟩, x14_Runs, x14_Ran, ⟨x14_Old_l, x14_Old_x⟩, ⟨x14_Past_l, x14_Past_x⟩⟩, hx15, hz⟩ := Option.bind_eq_some_iff.1 h
      clear h
      have h := hz
      clear hz
      try dsimp only at h
      refine sat_bind (nth_ok hΩ (ro_Cell hE) hx15 (by first | rfl | ((try clear h); subst_vars; rfl)) (by first | rfl | ((try clear h); subst_vars; rfl))) ?_
      conv => arg 1; cbv
      refine sat_true (len_ok hΩ (ro_Cell hE) r9 (by first | rfl | ((try clear h); subst_vars; rfl) | ((try clear h); subst_vars; simp only [ln_set])) (by first | rfl | ((try clear h); subst_vars; rfl) | ((try clear h); subst_vars; simp only [ln_set]))) ?_
      conv => arg 1; cbv
      refine sat_bind (nth_ok hΩ (ro_Cell hE) hx15 (by first | rfl | ((try clear h); subst_vars; rfl)) (by first | rfl | ((try clear h); subst_vars; rfl))) ?_
      conv => arg 1; cbv
      refine sat_set hΩ (ro_Cell hE) r9 r1 (Cell.mk x14_Kind x14_Name (Value.mk x14_Value__Kind x14_Value__N x14_Value__S (Sl.mk x14_Value__L_l x14_Value__L_x) (Sl.mk x14_Value__F_l x14_Value__F_x) x14_Value__Elem x14_Value__Key x14_Value__HasKey) (Value.mk r12_Kind r12_N r12_S (Sl.mk r12_L_l r12_L_x) (Sl.mk r12_F_l r12_F_x) r12_Elem r12_Key r12_HasKey) (Sl.mk x14_Deps_l x14_Deps_x) (Sl.mk x14_Do_l x14_Do_x) (Sl.mk x14_Undo_l x14_Undo_x) (Sl.mk x14_Env_l x14_Env_x) x14_Runs x14_Ran (Sl.mk x14_Old_l x14_Old_x) (Sl.mk x14_Past_l x14_Past_x)) (by first | rfl | ((try clear h); subst_vars; rfl)) (by first | rfl | ((try clear h); subst_vars; rfl)) (by first | rfl | ((try clear h); subst_vars; rfl)) fun l16 hl17 => ?_
      conv => arg 1; cbv
      refine sat_true (len_ok hΩ (ro_Cell hE) (List.set r9 (Int.toNat r1) (Cell.mk x14_Kind x14_Name (Value.mk x14_Value__Kind x14_Value__N x14_Value__S (Sl.mk x14_Value__L_l x14_Value__L_x) (Sl.mk x14_Value__F_l x14_Value__F_x) x14_Value__Elem x14_Value__Key x14_Value__HasKey) (Value.mk r12_Kind r12_N r12_S (Sl.mk r12_L_l r12_L_x) (Sl.mk r12_F_l r12_F_x) r12_Elem r12_Key r12_HasKey) (Sl.mk x14_Deps_l x14_Deps_x) (Sl.mk x14_Do_l x14_Do_x) (Sl.mk x14_Undo_l x14_Undo_x) (Sl.mk x14_Env_l x14_Env_x) x14_Runs x14_Ran (Sl.mk x14_Old_l x14_Old_x) (Sl.mk x14_Past_l x14_Past_x))) (by first | rfl | ((try clear h); subst_vars; rfl) | ((try clear h); subst_vars; simp only [ln_set])) (by first | rfl | ((try clear h); subst_vars; rfl) | ((try clear h); subst_vars; simp only [ln_set]))) ?_
      conv => arg 1; cbv
      obtain rfl := Option.some.inj h
      subst_vars
      exact sat_pure rfl
theorem ok17 {Ω : Om} {E : Enc} (hΩ : real (call S) = Ω) (hE : theEnc = E) {fu : Nat} {r : Bool} (h : P17 fu = some r) {args : List PV} (ha : [] = args) (st : St) :
    Sat (Ω.cf 17 args st) (fun q => q = (PV.d (.bool r), st)) := by
  subst ha
  subst hΩ
  obtain rfl := Option.some.inj h
  exact ⟨_, closed_call (S := S) (f := 17) rfl st, rfl⟩
end Go.Proofs.Ytipkggkbldgmjaa
