/- The interpreter computes just these functions: printed by a small program. -/
import Derived.Test.YtipkggkbldgmjaaKCD
namespace Go.Proofs.Ytipkggkbldgmjaa
open Go Go.X
set_option linter.unusedVariables false
set_option linter.unusedSimpArgs false
set_option maxRecDepth 100000
theorem ok29 {Ω : Om} {E : Enc} (hΩ : real (call S) = Ω) (hE : theEnc = E) {a0 : Sl Field} {a1 : ByteArray} {args : List PV} (ha : [PV.d (.sl (E.L_Field a0.l) (E.X_Field a0.x)), PV.d (.str a1)] = args) (st : St) :
    Sat (Ω.cf 29 args st) (fun q => q = (PV.fn 52 [.eptr [.sl (E.L_Field a0.l) (E.X_Field a0.x)], .eptr [.str a1]], st)) := by
  subst ha
  rw [cf_body hΩ (f := 29) (fn := Try.f29) (x := c29) rfl rfl c29_ok rfl rfl rfl]
  conv => arg 1; cbv
  exact sat_pure rfl
theorem ok53 {Ω : Om} {E : Enc} (hΩ : real (call S) = Ω) (hE : theEnc = E) {a0 : Sl Field} {args : List PV} (ha : [PV.d (.sl (E.L_Field a0.l) (E.X_Field a0.x))] = args) (st : St) :
    Sat (Ω.cf 53 args st) (fun q => q = (PV.fn 71 [.eptr [.sl (E.L_Field a0.l) (E.X_Field a0.x)]], st)) := by
  subst ha
  rw [cf_body hΩ (f := 53) (fn := Try.f53) (x := c53) rfl rfl c53_ok rfl rfl rfl]
  conv => arg 1; cbv
  exact sat_pure rfl
set_option maxHeartbeats 4000000 in
theorem ok69 {Ω : Om} {E : Enc} (hΩ : real (call S) = Ω) (hE : theEnc = E) {fu : Nat} {a0 : Sl Value} {r : (List Value)} (h : P69 fu a0 = some r) {args : List PV} (ha : [PV.d (.sl (E.L_Value a0.l) (E.X_Value a0.x))] = args) {st : St} (hH : X.hasL st 0 = true) {n : Int} (hn : ln r = n) :
    Sat (Ω.cf 69 args st) (fun q => q = (PV.row 0 (X.numO st 0) n, X.addO st 0 (X.Obj.row 27 8 (E.L_Value r) true none))) := by
  subst ha
  rcases a0 with ⟨a0_l, a0_x⟩
  rw [cf_body hΩ (f := 69) (fn := Try.f69) (x := c69) rfl rfl c69_ok rfl rfl rfl]
  unfold P69 at h
  try dsimp only at h
  conv => arg 1; cbv
  refine sat_nil hΩ (ro_Value hE) fun l1 hl2 => ?_
  conv => arg 1; cbv
  refine sat_in hΩ ?_
  conv => arg 1; cbv
  replace h := bif_cases h
  rcases h with ⟨hb3, h⟩ | ⟨hb3, h⟩
  · refine sat_brt (len_zero hΩ (ro_Value hE) (l := a0_l) hb3 (by first | rfl | ((try clear h); subst_vars; rfl))) ?_
    conv => arg 1; cbv
    obtain ⟨ha16, hb17⟩ := agree_some h
    clear h
    refine sat_both hΩ ?_ ?_
    · clear hb17
      have h := ha16
      clear ha16
      conv => arg 1; cbv
      refine sat_nil hΩ (ro_Value hE) fun l4 hl5 => ?_
      conv => arg 1; cbv
      refine sat_addfar' hΩ hH fun kk st2 hk2 hs2 => ?_
      conv => arg 1; cbv
      obtain rfl := Option.some.inj h
      subst_vars
      exact sat_pure rfl
    · clear ha16
      have h := hb17
      clear hb17
      conv => arg 1; cbv
      obtain ⟨q, hq15, hz⟩ := Option.bind_eq_some_iff.1 h
      clear h
      have h := hz
      clear hz
      refine sat_grp hΩ ((fun (q : (List Value)) => (match q with | l14 => ([(0, PV.d (.sl (E.L_Value a0_l) (E.X_Value a0_x))), (2, PV.row 0 1 (ln l14))], ([X.Obj.row 27 8 (E.L_Value l1) true none, X.Obj.row 27 8 (E.L_Value l14) true none] : List X.Obj) :: st))) q) (fun k hk => ?_) ?_
      · clear h
        have h := hq15
        clear hq15
        conv => arg 1; cbv
        refine sat_nil hΩ (ro_Value hE) fun l6 hl7 => ?_
        conv => arg 1; cbv
        refine sat_true (ieq_ok hΩ _) ?_
        conv => arg 1; cbv
        refine sat_true (fits_l hΩ (ro_Value hE) a0_l (by first | rfl | ((try clear h); subst_vars; rfl))) ?_
        conv => arg 1; cbv
        refine sat_true (len_ok hΩ (ro_Value hE) ([] : List Value) (by first | rfl | ((try clear h); subst_vars; rfl) | ((try clear h); subst_vars; simp only [ln_set])) (by first | rfl | ((try clear h); subst_vars; rfl) | ((try clear h); subst_vars; simp only [ln_set]))) ?_
        conv => arg 1; cbv
        replace h := bif_cases h
        rcases h with ⟨hb8, h⟩ | ⟨hb8, h⟩
        · refine sat_brt (len_zero hΩ (ro_Value hE) (l := a0_l) hb8 (by first | rfl | ((try clear h); subst_vars; rfl))) ?_
          conv => arg 1; cbv
          obtain rfl := Option.some.inj h
          subst_vars
          first | exact hk | (simp only [ln_set] at hk ⊢; exact hk)
        · refine sat_brf (len_zero hΩ (ro_Value hE) (l := a0_l) hb8 (by first | rfl | ((try clear h); subst_vars; rfl))) ?_
          conv => arg 1; cbv
          refine sat_cat hΩ (ro_Value hE) ([] : List Value) a0_l (by first | rfl | ((try clear h); subst_vars; rfl)) (by first | rfl | ((try clear h); subst_vars; rfl)) fun l9 hl10 n11 hn12 => ?_
          conv => arg 1; cbv
          replace h := bif_some h
          obtain ⟨hb13, h⟩ := h
          refine sat_true (by first | exact hb13 | ((try clear h); subst_vars; first | exact hb13 | rfl)) ?_
          conv => arg 1; cbv
          obtain rfl := Option.some.inj h
          subst_vars
          first | exact hk | (simp only [ln_set] at hk ⊢; exact hk)
      · clear hq15
        obtain ⟨l14, hqq⟩ : ∃ x, x = q := ⟨_, rfl⟩
        subst hqq
        try dsimp only at h
        obtain ⟨ln_l14, hln_l14⟩ : ∃ n, ln l14 = n := ⟨_, rfl⟩
        simp only [hln_l14]
        conv => arg 1; cbv
        refine sat_addfar' hΩ hH fun kk st2 hk2 hs2 => ?_
        conv => arg 1; cbv
        obtain rfl := Option.some.inj h
        subst_vars
        exact sat_pure rfl
  · refine sat_brf (len_zero hΩ (ro_Value hE) (l := a0_l) hb3 (by first | rfl | ((try clear h); subst_vars; rfl))) ?_
    conv => arg 1; cbv
    refine sat_in hΩ ?_
    conv => arg 1; cbv
    obtain ⟨q, hq27, hz⟩ := Option.bind_eq_some_iff.1 h
    clear h
    have h := hz
    clear hz
    refine sat_grp hΩ ((fun (q : (List Value)) => (match q with | l26 => ([(0, PV.d (.sl (E.L_Value a0_l) (E.X_Value a0_x))), (2, PV.row 0 1 (ln l26))], ([X.Obj.row 27 8 (E.L_Value l1) true none, X.Obj.row 27 8 (E.L_Value l26) true none] : List X.Obj) :: st))) q) (fun k hk => ?_) ?_
    · clear h
      have h := hq27
      clear hq27
      conv => arg 1; cbv
      refine sat_nil hΩ (ro_Value hE) fun l18 hl19 => ?_
      conv => arg 1; cbv
      refine sat_true (ieq_ok hΩ _) ?_
      conv => arg 1; cbv
      refine sat_true (fits_l hΩ (ro_Value hE) a0_l (by first | rfl | ((try clear h); subst_vars; rfl))) ?_
      conv => arg 1; cbv
      refine sat_true (len_ok hΩ (ro_Value hE) ([] : List Value) (by first | rfl | ((try clear h); subst_vars; rfl) | ((try clear h); subst_vars; simp only [ln_set])) (by first | rfl | ((try clear h); subst_vars; rfl) | ((try clear h); subst_vars; simp only [ln_set]))) ?_
      conv => arg 1; cbv
      replace h := bif_cases h
      rcases h with ⟨hb20, h⟩ | ⟨hb20, h⟩
      · refine sat_brt (len_zero hΩ (ro_Value hE) (l := a0_l) hb20 (by first | rfl | ((try clear h); subst_vars; rfl))) ?_
        conv => arg 1; cbv
        obtain rfl := Option.some.inj h
        subst_vars
        first | exact hk | (simp only [ln_set] at hk ⊢; exact hk)
      · refine sat_brf (len_zero hΩ (ro_Value hE) (l := a0_l) hb20 (by first | rfl | ((try clear h); subst_vars; rfl))) ?_
        conv => arg 1; cbv
        refine sat_cat hΩ (ro_Value hE) ([] : List Value) a0_l (by first | rfl | ((try clear h); subst_vars; rfl)) (by first | rfl | ((try clear h); subst_vars; rfl)) fun l21 hl22 n23 hn24 => ?_
        conv => arg 1; cbv
        replace h := bif_some h
        obtain ⟨hb25, h⟩ := h
        refine sat_true (by first | exact hb25 | ((try clear h); subst_vars; first | exact hb25 | rfl)) ?_
        conv => arg 1; cbv
        obtain rfl := Option.some.inj h
        subst_vars
        first | exact hk | (simp only [ln_set] at hk ⊢; exact hk)
    · clear hq27
      obtain ⟨l26, hqq⟩ : ∃ x, x = q := ⟨_, rfl⟩
      subst hqq
      try dsimp only at h
      obtain ⟨ln_l26, hln_l26⟩ : ∃ n, ln l26 = n := ⟨_, rfl⟩
      simp only [hln_l26]
      conv => arg 1; cbv
      refine sat_addfar' hΩ hH fun kk st2 hk2 hs2 => ?_
      conv => arg 1; cbv
      obtain rfl := Option.some.inj h
      subst_vars
      exact sat_pure rfl
set_option maxHeartbeats 4000000 in
theorem ok48 {Ω : Om} {E : Enc} (hΩ : real (call S) = Ω) (hE : theEnc = E) {fu : Nat} {a0 : Sl Field} {r : (List Field)} (h : P48 fu a0 = some r) {args : List PV} (ha : [PV.d (.sl (E.L_Field a0.l) (E.X_Field a0.x))] = args) {st : St} (hH : X.hasL st 0 = true) {n : Int} (hn : ln r = n) :
    Sat (Ω.cf 48 args st) (fun q => q = (PV.row 0 (X.numO st 0) n, X.addO st 0 (X.Obj.row 49 9 (E.L_Field r) true none))) := by
  subst ha
  rcases a0 with ⟨a0_l, a0_x⟩
  rw [cf_body hΩ (f := 48) (fn := Try.f48) (x := c48) rfl rfl c48_ok rfl rfl rfl]
  unfold P48 at h
  try dsimp only at h
  conv => arg 1; cbv
  refine sat_nil hΩ (ro_Field hE) fun l1 hl2 => ?_
  conv => arg 1; cbv
  refine sat_in hΩ ?_
  conv => arg 1; cbv
  replace h := bif_cases h
  rcases h with ⟨hb3, h⟩ | ⟨hb3, h⟩
  · refine sat_brt (len_zero hΩ (ro_Field hE) (l := a0_l) hb3 (by first | rfl | ((try clear h); subst_vars; rfl))) ?_
    conv => arg 1; cbv
    obtain ⟨ha16, hb17⟩ := agree_some h
    clear h
    refine sat_both hΩ ?_ ?_
    · clear hb17
      have h := ha16
      clear ha16
      conv => arg 1; cbv
      refine sat_nil hΩ (ro_Field hE) fun l4 hl5 => ?_
      conv => arg 1; cbv
      refine sat_addfar' hΩ hH fun kk st2 hk2 hs2 => ?_
      conv => arg 1; cbv
      obtain rfl := Option.some.inj h
      subst_vars
      exact sat_pure rfl
    · clear ha16
      have h := hb17
      clear hb17
      conv => arg 1; cbv
      obtain ⟨q, hq15, hz⟩ := Option.bind_eq_some_iff.1 h
      clear h
      have h := hz
      clear hz
      refine sat_grp hΩ ((fun (q : (List Field)) => (match q with | l14 => ([(0, PV.d (.sl (E.L_Field a0_l) (E.X_Field a0_x))), (2, PV.row 0 1 (ln l14))], ([X.Obj.row 49 9 (E.L_Field l1) true none, X.Obj.row 49 9 (E.L_Field l14) true none] : List X.Obj) :: st))) q) (fun k hk => ?_) ?_
      · clear h
        have h := hq15
        clear hq15
        conv => arg 1; cbv
        refine sat_nil hΩ (ro_Field hE) fun l6 hl7 => ?_
        conv => arg 1; cbv
        refine sat_true (ieq_ok hΩ _) ?_
        conv => arg 1; cbv
        refine sat_true (fits_l hΩ (ro_Field hE) a0_l (by first | rfl | ((try clear h); subst_vars; rfl))) ?_
        conv => arg 1; cbv
        refine sat_true (len_ok hΩ (ro_Field hE) ([] : List Field) (by first | rfl | ((try clear h); subst_vars; rfl) | ((try clear h); subst_vars; simp only [ln_set])) (by first | rfl | ((try clear h); subst_vars; rfl) | ((try clear h); subst_vars; simp only [ln_set]))) ?_
        conv => arg 1; cbv
        replace h := bif_cases h
        rcases h with ⟨hb8, h⟩ | ⟨hb8, h⟩
        · refine sat_brt (len_zero hΩ (ro_Field hE) (l := a0_l) hb8 (by first | rfl | ((try clear h); subst_vars; rfl))) ?_
          conv => arg 1; cbv
          obtain rfl := Option.some.inj h
          subst_vars
          first | exact hk | (simp only [ln_set] at hk ⊢; exact hk)
        · refine sat_brf (len_zero hΩ (ro_Field hE) (l := a0_l) hb8 (by first | rfl | ((try clear h); subst_vars; rfl))) ?_
          conv => arg 1; cbv
          refine sat_cat hΩ (ro_Field hE) ([] : List Field) a0_l (by first | rfl | ((try clear h); subst_vars; rfl)) (by first | rfl | ((try clear h); subst_vars; rfl)) fun l9 hl10 n11 hn12 => ?_
          conv => arg 1; cbv
          replace h := bif_some h
          obtain ⟨hb13, h⟩ := h
          refine sat_true (by first | exact hb13 | ((try clear h); subst_vars; first | exact hb13 | rfl)) ?_
          conv => arg 1; cbv
          obtain rfl := Option.some.inj h
          subst_vars
          first | exact hk | (simp only [ln_set] at hk ⊢; exact hk)
      · clear hq15
        obtain ⟨l14, hqq⟩ : ∃ x, x = q := ⟨_, rfl⟩
        subst hqq
        try dsimp only at h
        obtain ⟨ln_l14, hln_l14⟩ : ∃ n, ln l14 = n := ⟨_, rfl⟩
        simp only [hln_l14]
        conv => arg 1; cbv
        refine sat_addfar' hΩ hH fun kk st2 hk2 hs2 => ?_
        conv => arg 1; cbv
        obtain rfl := Option.some.inj h
        subst_vars
        exact sat_pure rfl
  · refine sat_brf (len_zero hΩ (ro_Field hE) (l := a0_l) hb3 (by first | rfl | ((try clear h); subst_vars; rfl))) ?_
    conv => arg 1; cbv
    refine sat_in hΩ ?_
    conv => arg 1; cbv
    obtain ⟨q, hq27, hz⟩ := Option.bind_eq_some_iff.1 h
    clear h
    have h := hz
    clear hz
    refine sat_grp hΩ ((fun (q : (List Field)) => (match q with | l26 => ([(0, PV.d (.sl (E.L_Field a0_l) (E.X_Field a0_x))), (2, PV.row 0 1 (ln l26))], ([X.Obj.row 49 9 (E.L_Field l1) true none, X.Obj.row 49 9 (E.L_Field l26) true none] : List X.Obj) :: st))) q) (fun k hk => ?_) ?_
    · clear h
      have h := hq27
      clear hq27
      conv => arg 1; cbv
      refine sat_nil hΩ (ro_Field hE) fun l18 hl19 => ?_
      conv => arg 1; cbv
      refine sat_true (ieq_ok hΩ _) ?_
      conv => arg 1; cbv
      refine sat_true (fits_l hΩ (ro_Field hE) a0_l (by first | rfl | ((try clear h); subst_vars; rfl))) ?_
      conv => arg 1; cbv
      refine sat_true (len_ok hΩ (ro_Field hE) ([] : List Field) (by first | rfl | ((try clear h); subst_vars; rfl) | ((try clear h); subst_vars; simp only [ln_set])) (by first | rfl | ((try clear h); subst_vars; rfl) | ((try clear h); subst_vars; simp only [ln_set]))) ?_
      conv => arg 1; cbv
      replace h := bif_cases h
      rcases h with ⟨hb20, h⟩ | ⟨hb20, h⟩
      · refine sat_brt (len_zero hΩ (ro_Field hE) (l := a0_l) hb20 (by first | rfl | ((try clear h); subst_vars; rfl))) ?_
        conv => arg 1; cbv
        obtain rfl := Option.some.inj h
        subst_vars
        first | exact hk | (simp only [ln_set] at hk ⊢; exact hk)
      · refine sat_brf (len_zero hΩ (ro_Field hE) (l := a0_l) hb20 (by first | rfl | ((try clear h); subst_vars; rfl))) ?_
        conv => arg 1; cbv
        refine sat_cat hΩ (ro_Field hE) ([] : List Field) a0_l (by first | rfl | ((try clear h); subst_vars; rfl)) (by first | rfl | ((try clear h); subst_vars; rfl)) fun l21 hl22 n23 hn24 => ?_
        conv => arg 1; cbv
        replace h := bif_some h
        obtain ⟨hb25, h⟩ := h
        refine sat_true (by first | exact hb25 | ((try clear h); subst_vars; first | exact hb25 | rfl)) ?_
        conv => arg 1; cbv
        obtain rfl := Option.some.inj h
        subst_vars
        first | exact hk | (simp only [ln_set] at hk ⊢; exact hk)
    · clear hq27
      obtain ⟨l26, hqq⟩ : ∃ x, x = q := ⟨_, rfl⟩
      subst hqq
      try dsimp only at h
      obtain ⟨ln_l26, hln_l26⟩ : ∃ n, ln l26 = n := ⟨_, rfl⟩
      simp only [hln_l26]
      conv => arg 1; cbv
      refine sat_addfar' hΩ hH fun kk st2 hk2 hs2 => ?_
      conv => arg 1; cbv
      obtain rfl := Option.some.inj h
      subst_vars
      exact sat_pure rfl
set_option maxHeartbeats 4000000 in
theorem ok70 {Ω : Om} {E : Enc} (hΩ : real (call S) = Ω) (hE : theEnc = E) {fu : Nat} {a0 : Sl Value} {r : (Sl Value)} (h : P70 fu a0 = some r) {args : List PV} (ha : [PV.d (.sl (E.L_Value a0.l) (E.X_Value a0.x))] = args) (st : St) :
    Sat (Ω.cf 70 args st) (fun q => q = (PV.d (.sl (E.L_Value r.l) (E.X_Value r.x)), st)) := by
  subst ha
  rcases a0 with ⟨a0_l, a0_x⟩
  rw [cf_body hΩ (f := 70) (fn := Try.f70) (x := c70) rfl rfl c70_ok rfl rfl rfl]
  unfold P70 at h
  try dsimp only at h
  conv => arg 1; cbv
  refine sat_len hΩ (ro_Value hE) a0_l (by first | rfl | ((try clear h); subst_vars; rfl)) fun n1 hn2 => ?_
  conv => arg 1; cbv
  refine sat_len hΩ (ro_Value hE) a0_l (by first | rfl | ((try clear h); subst_vars; rfl)) fun n3 hn4 => ?_
  conv => arg 1; cbv
  refine sat_true (fits_x hΩ (ro_Value hE) a0_l a0_x (by first | rfl | ((try clear h); subst_vars; rfl)) (by first | rfl | ((try clear h); subst_vars; rfl))) ?_
  conv => arg 1; cbv
  refine sat_len hΩ (ro_Value hE) a0_l (by first | rfl | ((try clear h); subst_vars; rfl)) fun n5 hn6 => ?_
  conv => arg 1; cbv
  replace h := bif_some h
  obtain ⟨hb7, h⟩ := h
  refine sat_true (by first | exact hb7 | ((try clear h); subst_vars; first | exact hb7 | rfl)) ?_
  conv => arg 1; cbv
  replace h := bif_some h
  obtain ⟨hb8, h⟩ := h
  refine sat_true (by first | exact hb8 | ((try clear h); subst_vars; first | exact hb8 | rfl)) ?_
  conv => arg 1; cbv
  replace h := bif_some h
  obtain ⟨hb9, h⟩ := h
  refine sat_true (by first | exact hb9 | ((try clear h); subst_vars; first | exact hb9 | rfl)) ?_
  conv => arg 1; cbv
  replace h := bif_some h
  obtain ⟨hb10, h⟩ := h
  refine sat_true (by first | exact hb10 | ((try clear h); subst_vars; first | exact hb10 | rfl)) ?_
  conv => arg 1; cbv
  refine sat_cut hΩ (ro_Value hE) a0_l 0 (ln a0_l) (by first | rfl | ((try clear h); subst_vars; rfl)) (by first | rfl | ((try clear h); subst_vars; rfl)) (by first | rfl | ((try clear h); subst_vars; rfl)) fun l11 hl12 => ?_
  conv => arg 1; cbv
  refine sat_cut hΩ (ro_Value hE) a0_l (ln a0_l) (ln a0_l) (by first | rfl | ((try clear h); subst_vars; rfl)) (by first | rfl | ((try clear h); subst_vars; rfl)) (by first | rfl | ((try clear h); subst_vars; rfl)) fun l13 hl14 => ?_
  conv => arg 1; cbv
  obtain rfl := Option.some.inj h
  subst_vars
  exact sat_pure rfl
set_option maxHeartbeats 4000000 in
theorem ok49 {Ω : Om} {E : Enc} (hΩ : real (call S) = Ω) (hE : theEnc = E) {fu : Nat} {a0 : Sl Field} {r : (Sl Field)} (h : P49 fu a0 = some r) {args : List PV} (ha : [PV.d (.sl (E.L_Field a0.l) (E.X_Field a0.x))] = args) (st : St) :
    Sat (Ω.cf 49 args st) (fun q => q = (PV.d (.sl (E.L_Field r.l) (E.X_Field r.x)), st)) := by
  subst ha
  rcases a0 with ⟨a0_l, a0_x⟩
  rw [cf_body hΩ (f := 49) (fn := Try.f49) (x := c49) rfl rfl c49_ok rfl rfl rfl]
  unfold P49 at h
  try dsimp only at h
  conv => arg 1; cbv
  refine sat_len hΩ (ro_Field hE) a0_l (by first | rfl | ((try clear h); subst_vars; rfl)) fun n1 hn2 => ?_
  conv => arg 1; cbv
  refine sat_len hΩ (ro_Field hE) a0_l (by first | rfl | ((try clear h); subst_vars; rfl)) fun n3 hn4 => ?_
  conv => arg 1; cbv
  refine sat_true (fits_x hΩ (ro_Field hE) a0_l a0_x (by first | rfl | ((try clear h); subst_vars; rfl)) (by first | rfl | ((try clear h); subst_vars; rfl))) ?_
  conv => arg 1; cbv
  refine sat_len hΩ (ro_Field hE) a0_l (by first | rfl | ((try clear h); subst_vars; rfl)) fun n5 hn6 => ?_
  conv => arg 1; cbv
  replace h := bif_some h
  obtain ⟨hb7, h⟩ := h
  refine sat_true (by first | exact hb7 | ((try clear h); subst_vars; first | exact hb7 | rfl)) ?_
  conv => arg 1; cbv
  replace h := bif_some h
  obtain ⟨hb8, h⟩ := h
  refine sat_true (by first | exact hb8 | ((try clear h); subst_vars; first | exact hb8 | rfl)) ?_
  conv => arg 1; cbv
  replace h := bif_some h
  obtain ⟨hb9, h⟩ := h
  refine sat_true (by first | exact hb9 | ((try clear h); subst_vars; first | exact hb9 | rfl)) ?_
  conv => arg 1; cbv
  replace h := bif_some h
  obtain ⟨hb10, h⟩ := h
  refine sat_true (by first | exact hb10 | ((try clear h); subst_vars; first | exact hb10 | rfl)) ?_
  conv => arg 1; cbv
  refine sat_cut hΩ (ro_Field hE) a0_l 0 (ln a0_l) (by first | rfl | ((try clear h); subst_vars; rfl)) (by first | rfl | ((try clear h); subst_vars; rfl)) (by first | rfl | ((try clear h); subst_vars; rfl)) fun l11 hl12 => ?_
  conv => arg 1; cbv
  refine sat_cut hΩ (ro_Field hE) a0_l (ln a0_l) (ln a0_l) (by first | rfl | ((try clear h); subst_vars; rfl)) (by first | rfl | ((try clear h); subst_vars; rfl)) (by first | rfl | ((try clear h); subst_vars; rfl)) fun l13 hl14 => ?_
  conv => arg 1; cbv
  obtain rfl := Option.some.inj h
  subst_vars
  exact sat_pure rfl
set_option maxHeartbeats 4000000 in
theorem okb24 {Ω : Om} {E : Enc} (hΩ : real (call S) = Ω) (hE : theEnc = E) {fu : Nat} {p24 : (Sl Field) → Option ((Sl Field))} (hp24 : ∀ {a0 : Sl Field} {r : (Sl Field)}, p24 a0 = some r → ∀ {args : List PV}, [PV.d (.sl (E.L_Field a0.l) (E.X_Field a0.x))] = args → ∀ (st : St), Sat (Ω.cf 24 args st) (fun q => q = (PV.d (.sl (E.L_Field r.l) (E.X_Field r.x)), st))) {p26 : Value → Option (Value)} (hp26 : ∀ {a0 : Value} {r : Value}, p26 a0 = some r → ∀ {args : List PV}, [pv_Value E a0] = args → ∀ (st : St), Sat (Ω.cf 26 args st) (fun q => q = (pv_Value E r, st))) {p50 : (Sl Value) → Option ((Sl Value))} (hp50 : ∀ {a0 : Sl Value} {r : (Sl Value)}, p50 a0 = some r → ∀ {args : List PV}, [PV.d (.sl (E.L_Value a0.l) (E.X_Value a0.x))] = args → ∀ (st : St), Sat (Ω.cf 50 args st) (fun q => q = (PV.d (.sl (E.L_Value r.l) (E.X_Value r.x)), st))) {a0 : Sl Field} {r : (Sl Field)} (h : Pb24 fu p24 p26 p50 a0 = some r) {args : List PV} (ha : [PV.d (.sl (E.L_Field a0.l) (E.X_Field a0.x))] = args) (st : St) :
    Sat (Ω.cf 24 args st) (fun q => q = (PV.d (.sl (E.L_Field r.l) (E.X_Field r.x)), st)) := by
  subst ha
  rcases a0 with ⟨a0_l, a0_x⟩
  rw [cf_body hΩ (f := 24) (fn := Try.f24) (x := c24) rfl rfl c24_ok rfl rfl rfl]
  unfold Pb24 at h
  try dsimp only at h
  conv => arg 1; cbv
  obtain ⟨r2, hx1, hz⟩ := Option.bind_eq_some_iff.1 h
  clear h
  have h := hz
  clear hz
  obtain ⟨n3, hn4⟩ : ∃ n, ln r2 = n := ⟨_, rfl⟩
  refine sat_call (ok48 hΩ hE (st := ([] : List X.Obj) :: st) hx1 (by (try clear h); subst_vars; rfl) rfl hn4) ?_
  conv => arg 1; cbv
  obtain ⟨q, hl17, hz⟩ := Option.bind_eq_some_iff.1 h
  clear h
  have h := hz
  clear hz
  refine sat_loop hΩ (fun (a : (List Field) × Int) => (match a with | (l5, i6) => ([(0, PV.d (.sl (E.L_Field a0_l) (E.X_Field a0_x))), (2, PV.d (.sl [] (some []))), (3, PV.row 0 0 (ln l5)), (8, PV.d (.int .i64 n3)), (9, PV.d (.int .i64 i6))], ([X.Obj.row 49 9 (E.L_Field l5) true none] : List X.Obj) :: st))) (fun (q : ((List Field) × Int)) => (match q with | (o18, o19) => (.exit 0, [(0, PV.d (.sl (E.L_Field a0_l) (E.X_Field a0_x))), (2, PV.d (.sl [] (some []))), (3, PV.row 0 0 (ln o18)), (8, PV.d (.int .i64 n3)), (9, PV.d (.int .i64 o19))], ([X.Obj.row 49 9 (E.L_Field o18) true none] : List X.Obj) :: st))) (r2, 0) hl17 (by first | rfl | ((try clear h); subst_vars; rfl) | ((try clear h); subst_vars; simp only [ln_set])) ?_ ?_
  · clear h hl17
    rintro ⟨l5, i6⟩ q h
    unfold P24_s0 at h
    dsimp only at h
    obtain ⟨ln_l5, hln_l5⟩ : ∃ n, ln l5 = n := ⟨_, rfl⟩
    simp only [hln_l5]
    conv => arg 1; cbv
    refine sat_in hΩ ?_
    conv => arg 1; cbv
    replace h := bif_cases h
    rcases h with ⟨hb7, h⟩ | ⟨hb7, h⟩
    · refine sat_brt (by first | exact hb7 | ((try clear h); subst_vars; first | exact hb7 | rfl)) ?_
      conv => arg 1; cbv
      refine sat_true (len_ok hΩ (ro_Field hE) l5 (by first | rfl | ((try clear h); subst_vars; rfl) | ((try clear h); subst_vars; simp only [ln_set])) (by first | rfl | ((try clear h); subst_vars; rfl) | ((try clear h); subst_vars; simp only [ln_set]))) ?_
      conv => arg 1; cbv
      obtain ⟨⟨x8_Name, ⟨x8_Value__Kind, x8_Value__N, x8_Value__S, ⟨x8_Value__L_l, x8_Value__L_x⟩, ⟨x8_Value__F_l, x8_Value__F_x⟩, x8_Value__Elem, x8_Value__Key, x8_Value__HasKey⟩⟩, hx9, hz⟩ := Option.bind_eq_some_iff.1 h
      clear h
      have h := hz
      clear hz
      try dsimp only at h
      refine sat_bind (nth_ok hΩ (ro_Field hE) hx9 (by first | rfl | ((try clear h); subst_vars; rfl)) (by first | rfl | ((try clear h); subst_vars; rfl))) ?_
      conv => arg 1; cbv
      refine sat_true (len_ok hΩ (ro_Field hE) l5 (by first | rfl | ((try clear h); subst_vars; rfl) | ((try clear h); subst_vars; simp only [ln_set])) (by first | rfl | ((try clear h); subst_vars; rfl) | ((try clear h); subst_vars; simp only [ln_set]))) ?_
      conv => arg 1; cbv
      refine sat_bind (nth_ok hΩ (ro_Field hE) hx9 (by first | rfl | ((try clear h); subst_vars; rfl)) (by first | rfl | ((try clear h); subst_vars; rfl))) ?_
      conv => arg 1; cbv
      obtain ⟨⟨r10_Kind, r10_N, r10_S, ⟨r10_L_l, r10_L_x⟩, ⟨r10_F_l, r10_F_x⟩, r10_Elem, r10_Key, r10_HasKey⟩, hx11, hz⟩ := Option.bind_eq_some_iff.1 h
      clear h
      have h := hz
      clear hz
      try dsimp only at h
      refine sat_call (hp26 hx11 (by (try clear h); subst_vars; rfl) _) ?_
      conv => arg 1; cbv
      refine sat_true (len_ok hΩ (ro_Field hE) l5 (by first | rfl | ((try clear h); subst_vars; rfl) | ((try clear h); subst_vars; simp only [ln_set])) (by first | rfl | ((try clear h); subst_vars; rfl) | ((try clear h); subst_vars; simp only [ln_set]))) ?_
      conv => arg 1; cbv
      obtain ⟨⟨x12_Name, ⟨x12_Value__Kind, x12_Value__N, x12_Value__S, ⟨x12_Value__L_l, x12_Value__L_x⟩, ⟨x12_Value__F_l, x12_Value__F_x⟩, x12_Value__Elem, x12_Value__Key, x12_Value__HasKey⟩⟩, hx13, hz⟩ := Option.bind_eq_some_iff.1 h
      clear h
      have h := hz
      clear hz
      try dsimp only at h
      refine sat_bind (nth_ok hΩ (ro_Field hE) hx13 (by first | rfl | ((try clear h); subst_vars; rfl)) (by first | rfl | ((try clear h); subst_vars; rfl))) ?_
      conv => arg 1; cbv
      refine sat_true (len_ok hΩ (ro_Field hE) l5 (by first | rfl | ((try clear h); subst_vars; rfl) | ((try clear h); subst_vars; simp only [ln_set])) (by first | rfl | ((try clear h); subst_vars; rfl) | ((try clear h); subst_vars; simp only [ln_set]))) ?_
      conv => arg 1; cbv
      refine sat_bind (nth_ok hΩ (ro_Field hE) hx13 (by first | rfl | ((try clear h); subst_vars; rfl)) (by first | rfl | ((try clear h); subst_vars; rfl))) ?_
      conv => arg 1; cbv
      refine sat_set hΩ (ro_Field hE) l5 i6 (Field.mk x12_Name (Value.mk r10_Kind r10_N r10_S (Sl.mk r10_L_l r10_L_x) (Sl.mk r10_F_l r10_F_x) r10_Elem r10_Key r10_HasKey)) (by first | rfl | ((try clear h); subst_vars; rfl)) (by first | rfl | ((try clear h); subst_vars; rfl)) (by first | rfl | ((try clear h); subst_vars; rfl)) fun l14 hl15 => ?_
      conv => arg 1; cbv
      obtain rfl := Option.some.inj h
      subst_vars
      first | exact sat_pure ⟨rfl, rfl, rfl⟩ | (refine sat_pure ⟨rfl, ?_, ?_⟩ <;> first | rfl | (dsimp only; simp only [ln_set]; rfl))
    · refine sat_brf (by first | exact hb7 | ((try clear h); subst_vars; first | exact hb7 | rfl)) ?_
      conv => arg 1; cbv
      obtain rfl := Option.some.inj h
      subst_vars
      first | exact sat_pure (.inl ⟨⟨_, rfl⟩, rfl⟩) | (refine sat_pure (.inl ⟨⟨_, rfl⟩, ?_⟩); dsimp only; simp only [ln_set]; rfl)
  · clear hl17
    rcases q with ⟨o18, o19⟩
    dsimp only at h
    obtain ⟨ln_o18, hln_o18⟩ : ∃ n, ln o18 = n := ⟨_, rfl⟩
    simp only [hln_o18]
    conv => arg 1; cbv
    refine sat_true (len_ok hΩ (ro_Field hE) o18 (by first | rfl | ((try clear h); subst_vars; rfl) | ((try clear h); subst_vars; simp only [ln_set])) (by first | rfl | ((try clear h); subst_vars; rfl) | ((try clear h); subst_vars; simp only [ln_set]))) ?_
    conv => arg 1; cbv
    obtain ⟨⟨r20_l, r20_x⟩, hx21, hz⟩ := Option.bind_eq_some_iff.1 h
    clear h
    have h := hz
    clear hz
    try dsimp only at h
    refine sat_call (ok49 hΩ hE hx21 (by (try clear h); subst_vars; rfl) _) ?_
    conv => arg 1; cbv
    obtain rfl := Option.some.inj h
    subst_vars
    exact sat_pure rfl
set_option maxHeartbeats 4000000 in
theorem okb26 {Ω : Om} {E : Enc} (hΩ : real (call S) = Ω) (hE : theEnc = E) {fu : Nat} {p24 : (Sl Field) → Option ((Sl Field))} (hp24 : ∀ {a0 : Sl Field} {r : (Sl Field)}, p24 a0 = some r → ∀ {args : List PV}, [PV.d (.sl (E.L_Field a0.l) (E.X_Field a0.x))] = args → ∀ (st : St), Sat (Ω.cf 24 args st) (fun q => q = (PV.d (.sl (E.L_Field r.l) (E.X_Field r.x)), st))) {p26 : Value → Option (Value)} (hp26 : ∀ {a0 : Value} {r : Value}, p26 a0 = some r → ∀ {args : List PV}, [pv_Value E a0] = args → ∀ (st : St), Sat (Ω.cf 26 args st) (fun q => q = (pv_Value E r, st))) {p50 : (Sl Value) → Option ((Sl Value))} (hp50 : ∀ {a0 : Sl Value} {r : (Sl Value)}, p50 a0 = some r → ∀ {args : List PV}, [PV.d (.sl (E.L_Value a0.l) (E.X_Value a0.x))] = args → ∀ (st : St), Sat (Ω.cf 50 args st) (fun q => q = (PV.d (.sl (E.L_Value r.l) (E.X_Value r.x)), st))) {a0 : Value} {r : Value} (h : Pb26 fu p24 p26 p50 a0 = some r) {args : List PV} (ha : [pv_Value E a0] = args) (st : St) :
    Sat (Ω.cf 26 args st) (fun q => q = (pv_Value E r, st)) := by
  subst ha
  rcases a0 with ⟨a0_Kind, a0_N, a0_S, ⟨a0_L_l, a0_L_x⟩, ⟨a0_F_l, a0_F_x⟩, a0_Elem, a0_Key, a0_HasKey⟩
  rw [cf_body hΩ (f := 26) (fn := Try.f26) (x := c26) rfl rfl c26_ok rfl rfl rfl]
  unfold Pb26 at h
  try dsimp only at h
  conv => arg 1; cbv
  obtain ⟨⟨r1_l, r1_x⟩, hx2, hz⟩ := Option.bind_eq_some_iff.1 h
  clear h
  have h := hz
  clear hz
  try dsimp only at h
  refine sat_call (hp50 hx2 (by (try clear h); subst_vars; rfl) _) ?_
  conv => arg 1; cbv
  refine sat_true (same_ok hΩ _) ?_
  conv => arg 1; cbv
  obtain ⟨⟨r3_l, r3_x⟩, hx4, hz⟩ := Option.bind_eq_some_iff.1 h
  clear h
  have h := hz
  clear hz
  try dsimp only at h
  refine sat_call (hp24 hx4 (by (try clear h); subst_vars; rfl) _) ?_
  conv => arg 1; cbv
  refine sat_true (same_ok hΩ _) ?_
  conv => arg 1; cbv
  obtain rfl := Option.some.inj h
  subst_vars
  exact sat_pure rfl
set_option maxHeartbeats 4000000 in
theorem okb50 {Ω : Om} {E : Enc} (hΩ : real (call S) = Ω) (hE : theEnc = E) {fu : Nat} {p24 : (Sl Field) → Option ((Sl Field))} (hp24 : ∀ {a0 : Sl Field} {r : (Sl Field)}, p24 a0 = some r → ∀ {args : List PV}, [PV.d (.sl (E.L_Field a0.l) (E.X_Field a0.x))] = args → ∀ (st : St), Sat (Ω.cf 24 args st) (fun q => q = (PV.d (.sl (E.L_Field r.l) (E.X_Field r.x)), st))) {p26 : Value → Option (Value)} (hp26 : ∀ {a0 : Value} {r : Value}, p26 a0 = some r → ∀ {args : List PV}, [pv_Value E a0] = args → ∀ (st : St), Sat (Ω.cf 26 args st) (fun q => q = (pv_Value E r, st))) {p50 : (Sl Value) → Option ((Sl Value))} (hp50 : ∀ {a0 : Sl Value} {r : (Sl Value)}, p50 a0 = some r → ∀ {args : List PV}, [PV.d (.sl (E.L_Value a0.l) (E.X_Value a0.x))] = args → ∀ (st : St), Sat (Ω.cf 50 args st) (fun q => q = (PV.d (.sl (E.L_Value r.l) (E.X_Value r.x)), st))) {a0 : Sl Value} {r : (Sl Value)} (h : Pb50 fu p24 p26 p50 a0 = some r) {args : List PV} (ha : [PV.d (.sl (E.L_Value a0.l) (E.X_Value a0.x))] = args) (st : St) :
    Sat (Ω.cf 50 args st) (fun q => q = (PV.d (.sl (E.L_Value r.l) (E.X_Value r.x)), st)) := by
  subst ha
  rcases a0 with ⟨a0_l, a0_x⟩
  rw [cf_body hΩ (f := 50) (fn := Try.f50) (x := c50) rfl rfl c50_ok rfl rfl rfl]
  unfold Pb50 at h
  try dsimp only at h
  conv => arg 1; cbv
  obtain ⟨r2, hx1, hz⟩ := Option.bind_eq_some_iff.1 h
  clear h
  have h := hz
  clear hz
  obtain ⟨n3, hn4⟩ : ∃ n, ln r2 = n := ⟨_, rfl⟩
  refine sat_call (ok69 hΩ hE (st := ([] : List X.Obj) :: st) hx1 (by (try clear h); subst_vars; rfl) rfl hn4) ?_
  conv => arg 1; cbv
  obtain ⟨q, hl17, hz⟩ := Option.bind_eq_some_iff.1 h
  clear h
  have h := hz
  clear hz
  refine sat_loop hΩ (fun (a : (List Value) × Int) => (match a with | (l5, i6) => ([(0, PV.d (.sl (E.L_Value a0_l) (E.X_Value a0_x))), (2, PV.d (.sl [] (some []))), (3, PV.row 0 0 (ln l5)), (8, PV.d (.int .i64 n3)), (9, PV.d (.int .i64 i6))], ([X.Obj.row 27 8 (E.L_Value l5) true none] : List X.Obj) :: st))) (fun (q : ((List Value) × Int)) => (match q with | (o18, o19) => (.exit 0, [(0, PV.d (.sl (E.L_Value a0_l) (E.X_Value a0_x))), (2, PV.d (.sl [] (some []))), (3, PV.row 0 0 (ln o18)), (8, PV.d (.int .i64 n3)), (9, PV.d (.int .i64 o19))], ([X.Obj.row 27 8 (E.L_Value o18) true none] : List X.Obj) :: st))) (r2, 0) hl17 (by first | rfl | ((try clear h); subst_vars; rfl) | ((try clear h); subst_vars; simp only [ln_set])) ?_ ?_
  · clear h hl17
    rintro ⟨l5, i6⟩ q h
    unfold P50_s0 at h
    dsimp only at h
    obtain ⟨ln_l5, hln_l5⟩ : ∃ n, ln l5 = n := ⟨_, rfl⟩
    simp only [hln_l5]
    conv => arg 1; cbv
    refine sat_in hΩ ?_
    conv => arg 1; cbv
    replace h := bif_cases h
    rcases h with ⟨hb7, h⟩ | ⟨hb7, h⟩
    · refine sat_brt (by first | exact hb7 | ((try clear h); subst_vars; first | exact hb7 | rfl)) ?_
      conv => arg 1; cbv
      refine sat_true (len_ok hΩ (ro_Value hE) l5 (by first | rfl | ((try clear h); subst_vars; rfl) | ((try clear h); subst_vars; simp only [ln_set])) (by first | rfl | ((try clear h); subst_vars; rfl) | ((try clear h); subst_vars; simp only [ln_set]))) ?_
      conv => arg 1; cbv
      obtain ⟨⟨x8_Kind, x8_N, x8_S, ⟨x8_L_l, x8_L_x⟩, ⟨x8_F_l, x8_F_x⟩, x8_Elem, x8_Key, x8_HasKey⟩, hx9, hz⟩ := Option.bind_eq_some_iff.1 h
      clear h
      have h := hz
      clear hz
      try dsimp only at h
      refine sat_bind (nth_ok hΩ (ro_Value hE) hx9 (by first | rfl | ((try clear h); subst_vars; rfl)) (by first | rfl | ((try clear h); subst_vars; rfl))) ?_
      conv => arg 1; cbv
      refine sat_true (len_ok hΩ (ro_Value hE) l5 (by first | rfl | ((try clear h); subst_vars; rfl) | ((try clear h); subst_vars; simp only [ln_set])) (by first | rfl | ((try clear h); subst_vars; rfl) | ((try clear h); subst_vars; simp only [ln_set]))) ?_
      conv => arg 1; cbv
      refine sat_bind (nth_ok hΩ (ro_Value hE) hx9 (by first | rfl | ((try clear h); subst_vars; rfl)) (by first | rfl | ((try clear h); subst_vars; rfl))) ?_
      conv => arg 1; cbv
      obtain ⟨⟨r10_Kind, r10_N, r10_S, ⟨r10_L_l, r10_L_x⟩, ⟨r10_F_l, r10_F_x⟩, r10_Elem, r10_Key, r10_HasKey⟩, hx11, hz⟩ := Option.bind_eq_some_iff.1 h
      clear h
      have h := hz
      clear hz
      try dsimp only at h
      refine sat_call (hp26 hx11 (by (try clear h); subst_vars; rfl) _) ?_
      conv => arg 1; cbv
      refine sat_true (len_ok hΩ (ro_Value hE) l5 (by first | rfl | ((try clear h); subst_vars; rfl) | ((try clear h); subst_vars; simp only [ln_set])) (by first | rfl | ((try clear h); subst_vars; rfl) | ((try clear h); subst_vars; simp only [ln_set]))) ?_
      conv => arg 1; cbv
      obtain ⟨⟨x12_Kind, x12_N, x12_S, ⟨x12_L_l, x12_L_x⟩, ⟨x12_F_l, x12_F_x⟩, x12_Elem, x12_Key, x12_HasKey⟩, hx13, hz⟩ := Option.bind_eq_some_iff.1 h
      clear h
      have h := hz
      clear hz
      try dsimp only at h
      refine sat_bind (nth_ok hΩ (ro_Value hE) hx13 (by first | rfl | ((try clear h); subst_vars; rfl)) (by first | rfl | ((try clear h); subst_vars; rfl))) ?_
      conv => arg 1; cbv
      refine sat_true (len_ok hΩ (ro_Value hE) l5 (by first | rfl | ((try clear h); subst_vars; rfl) | ((try clear h); subst_vars; simp only [ln_set])) (by first | rfl | ((try clear h); subst_vars; rfl) | ((try clear h); subst_vars; simp only [ln_set]))) ?_
      conv => arg 1; cbv
      refine sat_bind (nth_ok hΩ (ro_Value hE) hx13 (by first | rfl | ((try clear h); subst_vars; rfl)) (by first | rfl | ((try clear h); subst_vars; rfl))) ?_
      conv => arg 1; cbv
      refine sat_set hΩ (ro_Value hE) l5 i6 (Value.mk r10_Kind r10_N r10_S (Sl.mk r10_L_l r10_L_x) (Sl.mk r10_F_l r10_F_x) r10_Elem r10_Key r10_HasKey) (by first | rfl | ((try clear h); subst_vars; rfl)) (by first | rfl | ((try clear h); subst_vars; rfl)) (by first | rfl | ((try clear h); subst_vars; rfl)) fun l14 hl15 => ?_
      conv => arg 1; cbv
      obtain rfl := Option.some.inj h
      subst_vars
      first | exact sat_pure ⟨rfl, rfl, rfl⟩ | (refine sat_pure ⟨rfl, ?_, ?_⟩ <;> first | rfl | (dsimp only; simp only [ln_set]; rfl))
    · refine sat_brf (by first | exact hb7 | ((try clear h); subst_vars; first | exact hb7 | rfl)) ?_
      conv => arg 1; cbv
      obtain rfl := Option.some.inj h
      subst_vars
      first | exact sat_pure (.inl ⟨⟨_, rfl⟩, rfl⟩) | (refine sat_pure (.inl ⟨⟨_, rfl⟩, ?_⟩); dsimp only; simp only [ln_set]; rfl)
  · clear hl17
    rcases q with ⟨o18, o19⟩
    dsimp only at h
    obtain ⟨ln_o18, hln_o18⟩ : ∃ n, ln o18 = n := ⟨_, rfl⟩
    simp only [hln_o18]
    conv => arg 1; cbv
    refine sat_true (len_ok hΩ (ro_Value hE) o18 (by first | rfl | ((try clear h); subst_vars; rfl) | ((try clear h); subst_vars; simp only [ln_set])) (by first | rfl | ((try clear h); subst_vars; rfl) | ((try clear h); subst_vars; simp only [ln_set]))) ?_
    conv => arg 1; cbv
    obtain ⟨⟨r20_l, r20_x⟩, hx21, hz⟩ := Option.bind_eq_some_iff.1 h
    clear h
    have h := hz
    clear hz
    try dsimp only at h
    refine sat_call (ok70 hΩ hE hx21 (by (try clear h); subst_vars; rfl) _) ?_
    conv => arg 1; cbv
    obtain rfl := Option.some.inj h
    subst_vars
    exact sat_pure rfl
theorem okr24 {Ω : Om} {E : Enc} (hΩ : real (call S) = Ω) (hE : theEnc = E) : ∀ fu,
    (∀ {a0 : Sl Field} {r : (Sl Field)}, P24 fu a0 = some r → ∀ {args : List PV}, [PV.d (.sl (E.L_Field a0.l) (E.X_Field a0.x))] = args → ∀ (st : St), Sat (Ω.cf 24 args st) (fun q => q = (PV.d (.sl (E.L_Field r.l) (E.X_Field r.x)), st))) ∧
    (∀ {a0 : Value} {r : Value}, P26 fu a0 = some r → ∀ {args : List PV}, [pv_Value E a0] = args → ∀ (st : St), Sat (Ω.cf 26 args st) (fun q => q = (pv_Value E r, st))) ∧
    (∀ {a0 : Sl Value} {r : (Sl Value)}, P50 fu a0 = some r → ∀ {args : List PV}, [PV.d (.sl (E.L_Value a0.l) (E.X_Value a0.x))] = args → ∀ (st : St), Sat (Ω.cf 50 args st) (fun q => q = (PV.d (.sl (E.L_Value r.l) (E.X_Value r.x)), st))) := by
  intro fu
  induction fu with
  | zero => exact ⟨(fun h => (by cases h)), (fun h => (by cases h)), (fun h => (by cases h))⟩
  | succ fu ih =>
    obtain ⟨i24, i26, i50⟩ := ih
    exact ⟨(fun h => @fun args ha st => okb24 (fu := fu) hΩ hE i24 i26 i50 h ha st), (fun h => @fun args ha st => okb26 (fu := fu) hΩ hE i24 i26 i50 h ha st), (fun h => @fun args ha st => okb50 (fu := fu) hΩ hE i24 i26 i50 h ha st)⟩
theorem ok24 {Ω : Om} {E : Enc} (hΩ : real (call S) = Ω) (hE : theEnc = E) {fu : Nat} : ∀ {a0 : Sl Field} {r : (Sl Field)}, P24 fu a0 = some r → ∀ {args : List PV}, [PV.d (.sl (E.L_Field a0.l) (E.X_Field a0.x))] = args → ∀ (st : St), Sat (Ω.cf 24 args st) (fun q => q = (PV.d (.sl (E.L_Field r.l) (E.X_Field r.x)), st)) := (okr24 hΩ hE fu).1
theorem ok26 {Ω : Om} {E : Enc} (hΩ : real (call S) = Ω) (hE : theEnc = E) {fu : Nat} : ∀ {a0 : Value} {r : Value}, P26 fu a0 = some r → ∀ {args : List PV}, [pv_Value E a0] = args → ∀ (st : St), Sat (Ω.cf 26 args st) (fun q => q = (pv_Value E r, st)) := (okr24 hΩ hE fu).2.1
theorem ok50 {Ω : Om} {E : Enc} (hΩ : real (call S) = Ω) (hE : theEnc = E) {fu : Nat} : ∀ {a0 : Sl Value} {r : (Sl Value)}, P50 fu a0 = some r → ∀ {args : List PV}, [PV.d (.sl (E.L_Value a0.l) (E.X_Value a0.x))] = args → ∀ (st : St), Sat (Ω.cf 50 args st) (fun q => q = (PV.d (.sl (E.L_Value r.l) (E.X_Value r.x)), st)) := (okr24 hΩ hE fu).2.2
set_option maxHeartbeats 4000000 in
theorem ok117x1 {Ω : Om} {E : Enc} (hΩ : real (call S) = Ω) (hE : theEnc = E) {fu : Nat} {a1 : Value} {b0 c0 : Option X.Ex} {b1 c1 : Value} {S : ((Option X.Ex) × Value) → St} {lz0 iz0 iz1 : Nat} (e0 : b0 = c0) (e1 : b1 = c1) (hg0 : ∀ s, X.look (S s) lz0 iz0 = some (X.Obj.loop 117 [(4, PV.ptr 0 iz1 0)] s.1)) (hu0 : ∀ s x, X.setO (S s) lz0 iz0 (X.Obj.loop 117 [(4, PV.ptr 0 iz1 0)] x) = S (x, s.2)) (hg1 : ∀ s, X.look (S s) lz0 iz1 = some (X.Obj.box 27 (bx_27 E s.2))) (hu1 : ∀ s x, X.setO (S s) lz0 iz1 (X.Obj.box 27 (bx_27 E x)) = S (s.1, x)) {r : Bool × (Option X.Ex) × Value} (h : P117x1 fu a1 b0 b1 = some r) {args : List PV} (ha : [PV.yld lz0 iz0, pv_Value E a1] = args) {st : St} (hst : S (c0, c1) = st) :
    Sat (Ω.rd 117 args st) (fun q => q = (PV.d (.bool r.1), S (r.2.1, r.2.2))) := by
  subst ha
  subst hst
  subst e0
  subst e1
  rcases a1 with ⟨a1_Kind, a1_N, a1_S, ⟨a1_L_l, a1_L_x⟩, ⟨a1_F_l, a1_F_x⟩, a1_Elem, a1_Key, a1_HasKey⟩
  rcases b1 with ⟨b1_Kind, b1_N, b1_S, ⟨b1_L_l, b1_L_x⟩, ⟨b1_F_l, b1_F_x⟩, b1_Elem, b1_Key, b1_HasKey⟩
  rw [cf_round hΩ (g := 117) rfl rfl cs117_ok]
  unfold P117x1 at h
  try dsimp only at h
  rcases b0 with _ | _
  · try dsimp only at h
    refine sat_round hΩ (hg0 _) (by exact (show downE (lz0+1) [(4, PV.ptr 0 iz1 0)] = [(4, PV.ptr (lz0+1) iz1 0)] by simp only [downE, down, down.downs, Nat.zero_add])) ?_
    conv => arg 1; cbv
    refine sat_loopfar hΩ (hg0 _) ?_
    conv => arg 1; cbv
    refine sat_setfar hΩ (hu0 _ _) ?_
    conv => arg 1; cbv
    obtain ⟨⟨r1_Kind, r1_N, r1_S, ⟨r1_L_l, r1_L_x⟩, ⟨r1_F_l, r1_F_x⟩, r1_Elem, r1_Key, r1_HasKey⟩, hx2, hz⟩ := Option.bind_eq_some_iff.1 h
    clear h
    have h := hz
    clear hz
    try dsimp only at h
    refine sat_call (ok26 hΩ hE hx2 (by (try clear h); subst_vars; rfl) _) ?_
    conv => arg 1; cbv
    refine sat_putfar hΩ (hg1 _) (hu1 _ (Value.mk r1_Kind r1_N r1_S (Sl.mk r1_L_l r1_L_x) (Sl.mk r1_F_l r1_F_x) r1_Elem r1_Key r1_HasKey)) rfl rfl (by first | rfl | ((try clear h); subst_vars; rfl)) ?_
    conv => arg 1; cbv
    refine sat_loopfar hΩ (hg0 _) ?_
    conv => arg 1; cbv
    refine sat_setfar hΩ (hu0 _ _) ?_
    conv => arg 1; cbv
    obtain rfl := Option.some.inj h
    subst_vars
    exact sat_pure rfl
  · try dsimp only at h
    cases h
set_option maxHeartbeats 4000000 in
theorem ok118x1 {Ω : Om} {E : Enc} (hΩ : real (call S) = Ω) (hE : theEnc = E) {fu : Nat} {a1 : Int} {a2 : Field} {d0 : ByteArray} {b0 c0 : Option X.Ex} {b2 c2 : Option X.Ex} {b3 c3 : Value} {S : ((Option X.Ex) × (Option X.Ex) × Value) → St} {lz0 lz1 ly1 iz0 iz1 iz2 iz3 : Nat} (hl1 : ly1 + lz0 = lz1) (e0 : b0 = c0) (e2 : b2 = c2) (e3 : b3 = c3) (hg0 : ∀ s, X.look (S s) lz0 iz0 = some (X.Obj.loop 118 [(2, PV.eptr [.str d0]), (3, PV.ptr 0 iz1 0)] s.1)) (hu0 : ∀ s x, X.setO (S s) lz0 iz0 (X.Obj.loop 118 [(2, PV.eptr [.str d0]), (3, PV.ptr 0 iz1 0)] x) = S (x, s.2.1, s.2.2)) (hg1 : ∀ s, X.look (S s) lz0 iz1 = some (X.Obj.box 66 [PV.yld ly1 iz2])) (hg2 : ∀ s, X.look (S s) lz1 iz2 = some (X.Obj.loop 117 [(4, PV.ptr 0 iz3 0)] s.2.1)) (hu2 : ∀ s x, X.setO (S s) lz1 iz2 (X.Obj.loop 117 [(4, PV.ptr 0 iz3 0)] x) = S (s.1, x, s.2.2)) (hg3 : ∀ s, X.look (S s) lz1 iz3 = some (X.Obj.box 27 (bx_27 E s.2.2))) (hu3 : ∀ s x, X.setO (S s) lz1 iz3 (X.Obj.box 27 (bx_27 E x)) = S (s.1, s.2.1, x)) {r : Bool × (Option X.Ex) × (Option X.Ex) × Value} (h : P118x1 fu a1 a2 d0 b0 b2 b3 = some r) {args : List PV} (ha : [PV.yld lz0 iz0, PV.d (.int .i64 a1), pv_Field E a2] = args) {st : St} (hst : S (c0, c2, c3) = st) :
    Sat (Ω.rd 118 args st) (fun q => q = (PV.d (.bool r.1), S (r.2.1, r.2.2.1, r.2.2.2))) := by
  subst ha
  subst hst
  subst e0
  subst e2
  subst e3
  rcases a2 with ⟨a2_Name, ⟨a2_Value__Kind, a2_Value__N, a2_Value__S, ⟨a2_Value__L_l, a2_Value__L_x⟩, ⟨a2_Value__F_l, a2_Value__F_x⟩, a2_Value__Elem, a2_Value__Key, a2_Value__HasKey⟩⟩
  rcases b3 with ⟨b3_Kind, b3_N, b3_S, ⟨b3_L_l, b3_L_x⟩, ⟨b3_F_l, b3_F_x⟩, b3_Elem, b3_Key, b3_HasKey⟩
  rw [cf_round hΩ (g := 118) rfl rfl cs118_ok]
  unfold P118x1 at h
  try dsimp only at h
  rcases b0 with _ | _
  · try dsimp only at h
    refine sat_round hΩ (hg0 _) (by exact (show downE (lz0+1) [(2, PV.eptr [.str d0]), (3, PV.ptr 0 iz1 0)] = [(2, PV.eptr [.str d0]), (3, PV.ptr (lz0+1) iz1 0)] by simp only [downE, down, down.downs, Nat.zero_add, ← hl1, Nat.add_assoc])) ?_
    conv => arg 1; cbv
    refine sat_loopfar hΩ (hg0 _) ?_
    conv => arg 1; cbv
    refine sat_setfar hΩ (hu0 _ _) ?_
    conv => arg 1; cbv
    obtain ⟨q, hq10, hz⟩ := Option.bind_eq_some_iff.1 h
    clear h
    have h := hz
    clear hz
    refine sat_grp hΩ ((fun (q : (Option X.Ex) × Int × Int × ByteArray × (List Value) × (Option (List Value)) × (List Field) × (Option (List Field)) × Int × ByteArray × Bool × Bool) => (match q with | (g6, g7_Kind, g7_N, g7_S, g7_L_l, g7_L_x, g7_F_l, g7_F_x, g7_Elem, g7_Key, g7_HasKey, i8) => ([(2, PV.eptr [.str d0]), (3, PV.ptr (lz0+1) iz1 0), (5, PV.ptr 0 0 0), (8, PV.d (.int .i64 a1)), (9, PV.agg [.d (.str a2_Name), .d (.int .u8 a2_Value__Kind), .d (.int .i64 a2_Value__N), .d (.str a2_Value__S), .d (.sl (E.L_Value a2_Value__L_l) (E.X_Value a2_Value__L_x)), .d (.sl (E.L_Field a2_Value__F_l) (E.X_Field a2_Value__F_x)), .d (.int .u8 a2_Value__Elem), .d (.str a2_Value__Key), .d (.bool a2_Value__HasKey)]), (20, PV.d (.bool i8))], ([X.Obj.box 49 [.d (.str a2_Name), .d (.int .u8 a2_Value__Kind), .d (.int .i64 a2_Value__N), .d (.str a2_Value__S), .d (.sl (E.L_Value a2_Value__L_l) (E.X_Value a2_Value__L_x)), .d (.sl (E.L_Field a2_Value__F_l) (E.X_Field a2_Value__F_x)), .d (.int .u8 a2_Value__Elem), .d (.str a2_Value__Key), .d (.bool a2_Value__HasKey)]] : List X.Obj) :: S ((some .normal), g6, (Value.mk g7_Kind g7_N g7_S (Sl.mk g7_L_l g7_L_x) (Sl.mk g7_F_l g7_F_x) g7_Elem g7_Key g7_HasKey))))) q) (fun k hk => ?_) ?_
    · clear h
      have h := hq10
      clear hq10
      conv => arg 1; cbv
      replace h := bif_cases h
      rcases h with ⟨hb1, h⟩ | ⟨hb1, h⟩
      · refine sat_brt (by first | exact hb1 | ((try clear h); subst_vars; first | exact hb1 | rfl)) ?_
        conv => arg 1; cbv
        refine sat_far hΩ (hg1 _) (by exact (show down.downs (lz0+1) [PV.yld ly1 iz2] = [PV.yld (lz1+1) iz2] by simp only [down.downs, down, Nat.zero_add, ← hl1, Nat.add_assoc])) ?_
        conv => arg 1; cbv
        rcases b2 with _ | _
        · try dsimp only at h
          refine sat_loopfar hΩ (hg2 _) ?_
          conv => arg 1; cbv
          obtain ⟨⟨r3, wr4, ⟨wr5_Kind, wr5_N, wr5_S, ⟨wr5_L_l, wr5_L_x⟩, ⟨wr5_F_l, wr5_F_x⟩, wr5_Elem, wr5_Key, wr5_HasKey⟩⟩, hx2, hz⟩ := Option.bind_eq_some_iff.1 h
          clear h
          have h := hz
          clear hz
          try dsimp only at h
          refine sat_call (ok117x1 hΩ hE (S := (fun (s : (Option X.Ex) × Value) => ([X.Obj.box 49 [.d (.str a2_Name), .d (.int .u8 a2_Value__Kind), .d (.int .i64 a2_Value__N), .d (.str a2_Value__S), .d (.sl (E.L_Value a2_Value__L_l) (E.X_Value a2_Value__L_x)), .d (.sl (E.L_Field a2_Value__F_l) (E.X_Field a2_Value__F_x)), .d (.int .u8 a2_Value__Elem), .d (.str a2_Value__Key), .d (.bool a2_Value__HasKey)]] : List X.Obj) :: S ((some .normal), s.1, s.2))) (lz0 := (lz1+1)) (iz0 := iz2) (iz1 := iz3) (c0 := none) (c1 := (Value.mk b3_Kind b3_N b3_S (Sl.mk b3_L_l b3_L_x) (Sl.mk b3_F_l b3_F_x) b3_Elem b3_Key b3_HasKey)) (by (try clear h); subst_vars; rfl) (by (try clear h); subst_vars; rfl) (fun s => hg2 ((some .normal), s.1, s.2)) (fun s x => congrArg (List.cons _) (hu2 ((some .normal), s.1, s.2) x)) (fun s => hg3 ((some .normal), s.1, s.2)) (fun s x => congrArg (List.cons _) (hu3 ((some .normal), s.1, s.2) x)) hx2 (by (try clear h); subst_vars; rfl) (by (try clear h); subst_vars; rfl)) ?_
          conv => arg 1; cbv
          obtain rfl := Option.some.inj h
          subst_vars
          first | exact hk | (simp only [ln_set] at hk ⊢; exact hk)
        · try dsimp only at h
          cases h
      · refine sat_brf (by first | exact hb1 | ((try clear h); subst_vars; first | exact hb1 | rfl)) ?_
        conv => arg 1; cbv
        obtain rfl := Option.some.inj h
        subst_vars
        first | exact hk | (simp only [ln_set] at hk ⊢; exact hk)
    · clear hq10
      rcases q with ⟨g6, g7_Kind, g7_N, g7_S, g7_L_l, g7_L_x, g7_F_l, g7_F_x, g7_Elem, g7_Key, g7_HasKey, i8⟩
      try dsimp only at h
      conv => arg 1; cbv
      refine sat_in hΩ ?_
      conv => arg 1; cbv
      replace h := bif_cases h
      rcases h with ⟨hb9, h⟩ | ⟨hb9, h⟩
      · refine sat_brt (by first | exact hb9 | ((try clear h); subst_vars; first | exact hb9 | rfl)) ?_
        conv => arg 1; cbv
        refine sat_loopfar hΩ (hg0 _) ?_
        conv => arg 1; cbv
        refine sat_setfar hΩ (hu0 _ _) ?_
        conv => arg 1; cbv
        obtain rfl := Option.some.inj h
        subst_vars
        exact sat_pure rfl
      · refine sat_brf (by first | exact hb9 | ((try clear h); subst_vars; first | exact hb9 | rfl)) ?_
        conv => arg 1; cbv
        refine sat_loopfar hΩ (hg0 _) ?_
        conv => arg 1; cbv
        refine sat_setfar hΩ (hu0 _ _) ?_
        conv => arg 1; cbv
        obtain rfl := Option.some.inj h
        subst_vars
        exact sat_pure rfl
  · try dsimp only at h
    cases h
set_option maxHeartbeats 4000000 in
theorem ok71x1 {Ω : Om} {E : Enc} (hΩ : real (call S) = Ω) (hE : theEnc = E) {fu : Nat} {a1 : Sl Field} {d0 : ByteArray} {b0 c0 : Option X.Ex} {b2 c2 : Option X.Ex} {b3 c3 : Value} {S : ((Option X.Ex) × (Option X.Ex) × Value) → St} {lz0 lz1 ly1 iz0 iz1 iz2 iz3 : Nat} (hl1 : ly1 + lz0 = lz1) (e0 : b0 = c0) (e2 : b2 = c2) (e3 : b3 = c3) (hg0 : ∀ s, X.look (S s) lz0 iz0 = some (X.Obj.loop 118 [(2, PV.eptr [.str d0]), (3, PV.ptr 0 iz1 0)] s.1)) (hu0 : ∀ s x, X.setO (S s) lz0 iz0 (X.Obj.loop 118 [(2, PV.eptr [.str d0]), (3, PV.ptr 0 iz1 0)] x) = S (x, s.2.1, s.2.2)) (hg1 : ∀ s, X.look (S s) lz0 iz1 = some (X.Obj.box 66 [PV.yld ly1 iz2])) (hg2 : ∀ s, X.look (S s) lz1 iz2 = some (X.Obj.loop 117 [(4, PV.ptr 0 iz3 0)] s.2.1)) (hu2 : ∀ s x, X.setO (S s) lz1 iz2 (X.Obj.loop 117 [(4, PV.ptr 0 iz3 0)] x) = S (s.1, x, s.2.2)) (hg3 : ∀ s, X.look (S s) lz1 iz3 = some (X.Obj.box 27 (bx_27 E s.2.2))) (hu3 : ∀ s x, X.setO (S s) lz1 iz3 (X.Obj.box 27 (bx_27 E x)) = S (s.1, s.2.1, x)) {r : (Option X.Ex) × (Option X.Ex) × Value} (h : P71x1 fu a1 d0 b0 b2 b3 = some r) {args : List PV} (ha : [PV.yld lz0 iz0, PV.eptr [.sl (E.L_Field a1.l) (E.X_Field a1.x)]] = args) {st : St} (hst : S (c0, c2, c3) = st) :
    Sat (Ω.cf 71 args st) (fun q => q = (PV.tup [], S (r.1, r.2.1, r.2.2))) := by
  subst ha
  subst hst
  subst e0
  subst e2
  subst e3
  rcases a1 with ⟨a1_l, a1_x⟩
  rcases b3 with ⟨b3_Kind, b3_N, b3_S, ⟨b3_L_l, b3_L_x⟩, ⟨b3_F_l, b3_F_x⟩, b3_Elem, b3_Key, b3_HasKey⟩
  rw [cf_body hΩ (f := 71) (fn := Try.f71) (x := c71) rfl rfl c71_ok rfl rfl rfl]
  unfold P71x1 at h
  try dsimp only at h
  conv => arg 1; cbv
  refine sat_len hΩ (ro_Field hE) a1_l (by first | rfl | ((try clear h); subst_vars; rfl)) fun n1 hn2 => ?_
  conv => arg 1; cbv
  obtain ⟨q, hl16, hz⟩ := Option.bind_eq_some_iff.1 h
  clear h
  have h := hz
  clear hz
  refine sat_loop hΩ (fun (a : (Option X.Ex) × (Option X.Ex) × Int × Int × ByteArray × (List Value) × (Option (List Value)) × (List Field) × (Option (List Field)) × Int × ByteArray × Bool × Int) => (match a with | (g3, g4, g5_Kind, g5_N, g5_S, g5_L_l, g5_L_x, g5_F_l, g5_F_x, g5_Elem, g5_Key, g5_HasKey, i6) => ([(0, PV.yld (lz0+1) iz0), (1, PV.eptr [.sl (E.L_Field a1_l) (E.X_Field a1_x)]), (3, PV.d (.int .i64 i6))], ([] : List X.Obj) :: S (g3, g4, (Value.mk g5_Kind g5_N g5_S (Sl.mk g5_L_l g5_L_x) (Sl.mk g5_F_l g5_F_x) g5_Elem g5_Key g5_HasKey))))) (fun (q : ((Option X.Ex) × (Option X.Ex) × Int × Int × ByteArray × (List Value) × (Option (List Value)) × (List Field) × (Option (List Field)) × Int × ByteArray × Bool × Int) ⊕ ((Option X.Ex) × (Option X.Ex) × Int × Int × ByteArray × (List Value) × (Option (List Value)) × (List Field) × (Option (List Field)) × Int × ByteArray × Bool × Int)) => (match q with | .inl (o17, o18, o19, o20, o21, o22, o23, o24, o25, o26, o27, o28, o29) => (.exit 0, [(0, PV.yld (lz0+1) iz0), (1, PV.eptr [.sl (E.L_Field a1_l) (E.X_Field a1_x)]), (3, PV.d (.int .i64 o29))], ([] : List X.Obj) :: S (o17, o18, (Value.mk o19 o20 o21 (Sl.mk o22 o23) (Sl.mk o24 o25) o26 o27 o28))) | .inr (o30, o31, o32, o33, o34, o35, o36, o37, o38, o39, o40, o41, o42) => (.ret, [(0, PV.yld (lz0+1) iz0), (1, PV.eptr [.sl (E.L_Field a1_l) (E.X_Field a1_x)]), (3, PV.d (.int .i64 o42))], ([] : List X.Obj) :: S (o30, o31, (Value.mk o32 o33 o34 (Sl.mk o35 o36) (Sl.mk o37 o38) o39 o40 o41))))) (b0, b2, b3_Kind, b3_N, b3_S, b3_L_l, b3_L_x, b3_F_l, b3_F_x, b3_Elem, b3_Key, b3_HasKey, w64 ((ln a1_l) - 1)) hl16 (by first | rfl | ((try clear h); subst_vars; rfl) | ((try clear h); subst_vars; simp only [ln_set])) ?_ ?_
  · clear h hl16
    rintro ⟨g3, g4, g5_Kind, g5_N, g5_S, g5_L_l, g5_L_x, g5_F_l, g5_F_x, g5_Elem, g5_Key, g5_HasKey, i6⟩ q h
    unfold P71x1_s0 at h
    dsimp only at h
    conv => arg 1; cbv
    refine sat_in hΩ ?_
    conv => arg 1; cbv
    replace h := bif_cases h
    rcases h with ⟨hb7, h⟩ | ⟨hb7, h⟩
    · refine sat_brt (by first | exact hb7 | ((try clear h); subst_vars; first | exact hb7 | rfl)) ?_
      conv => arg 1; cbv
      refine sat_true (fits_l hΩ (ro_Field hE) a1_l (by first | rfl | ((try clear h); subst_vars; rfl))) ?_
      conv => arg 1; cbv
      obtain ⟨⟨x8_Name, ⟨x8_Value__Kind, x8_Value__N, x8_Value__S, ⟨x8_Value__L_l, x8_Value__L_x⟩, ⟨x8_Value__F_l, x8_Value__F_x⟩, x8_Value__Elem, x8_Value__Key, x8_Value__HasKey⟩⟩, hx9, hz⟩ := Option.bind_eq_some_iff.1 h
      clear h
      have h := hz
      clear hz
      try dsimp only at h
      refine sat_bind (nth_ok hΩ (ro_Field hE) hx9 (by first | rfl | ((try clear h); subst_vars; rfl)) (by first | rfl | ((try clear h); subst_vars; rfl))) ?_
      conv => arg 1; cbv
      rcases g3 with _ | _
      · try dsimp only at h
        refine sat_loopfar hΩ (hg0 _) ?_
        conv => arg 1; cbv
        obtain ⟨⟨r11, wr12, wr13, ⟨wr14_Kind, wr14_N, wr14_S, ⟨wr14_L_l, wr14_L_x⟩, ⟨wr14_F_l, wr14_F_x⟩, wr14_Elem, wr14_Key, wr14_HasKey⟩⟩, hx10, hz⟩ := Option.bind_eq_some_iff.1 h
        clear h
        have h := hz
        clear hz
        try dsimp only at h
        refine sat_call (ok118x1 hΩ hE (S := (fun (s : (Option X.Ex) × (Option X.Ex) × Value) => ([] : List X.Obj) :: S (s.1, s.2.1, s.2.2))) (lz0 := (lz0+1)) (lz1 := (lz1+1)) (ly1 := ly1) (iz0 := iz0) (iz1 := iz1) (iz2 := iz2) (iz3 := iz3) (c0 := none) (c2 := g4) (c3 := (Value.mk g5_Kind g5_N g5_S (Sl.mk g5_L_l g5_L_x) (Sl.mk g5_F_l g5_F_x) g5_Elem g5_Key g5_HasKey)) (by first | rfl | omega) (by (try clear h); subst_vars; rfl) (by (try clear h); subst_vars; rfl) (by (try clear h); subst_vars; rfl) (fun s => hg0 (s.1, s.2.1, s.2.2)) (fun s x => congrArg (List.cons _) (hu0 (s.1, s.2.1, s.2.2) x)) (fun s => hg1 (s.1, s.2.1, s.2.2)) (fun s => hg2 (s.1, s.2.1, s.2.2)) (fun s x => congrArg (List.cons _) (hu2 (s.1, s.2.1, s.2.2) x)) (fun s => hg3 (s.1, s.2.1, s.2.2)) (fun s x => congrArg (List.cons _) (hu3 (s.1, s.2.1, s.2.2) x)) hx10 (by (try clear h); subst_vars; rfl) (by (try clear h); subst_vars; rfl)) ?_
        conv => arg 1; cbv
        refine sat_in hΩ ?_
        conv => arg 1; cbv
        replace h := bif_cases h
        rcases h with ⟨hb15, h⟩ | ⟨hb15, h⟩
        · refine sat_brt (by first | exact hb15 | ((try clear h); subst_vars; first | exact hb15 | rfl)) ?_
          conv => arg 1; cbv
          obtain rfl := Option.some.inj h
          subst_vars
          first | exact sat_pure (.inr ⟨rfl, rfl⟩) | (refine sat_pure (.inr ⟨rfl, ?_⟩); dsimp only; simp only [ln_set]; rfl)
        · refine sat_brf (by first | exact hb15 | ((try clear h); subst_vars; first | exact hb15 | rfl)) ?_
          conv => arg 1; cbv
          obtain rfl := Option.some.inj h
          subst_vars
          first | exact sat_pure ⟨rfl, rfl, rfl⟩ | (refine sat_pure ⟨rfl, ?_, ?_⟩ <;> first | rfl | (dsimp only; simp only [ln_set]; rfl))
      · try dsimp only at h
        cases h
    · refine sat_brf (by first | exact hb7 | ((try clear h); subst_vars; first | exact hb7 | rfl)) ?_
      conv => arg 1; cbv
      obtain rfl := Option.some.inj h
      subst_vars
      first | exact sat_pure (.inl ⟨⟨_, rfl⟩, rfl⟩) | (refine sat_pure (.inl ⟨⟨_, rfl⟩, ?_⟩); dsimp only; simp only [ln_set]; rfl)
  · clear hl16
    rcases q with ⟨o17, o18, o19, o20, o21, o22, o23, o24, o25, o26, o27, o28, o29⟩ | ⟨o30, o31, o32, o33, o34, o35, o36, o37, o38, o39, o40, o41, o42⟩
    · dsimp only at h
      conv => arg 1; cbv
      obtain rfl := Option.some.inj h
      subst_vars
      exact sat_pure rfl
    · dsimp only at h
      conv => arg 1; cbv
      obtain rfl := Option.some.inj h
      subst_vars
      exact sat_pure rfl
set_option maxHeartbeats 4000000 in
theorem ok52x1 {Ω : Om} {E : Enc} (hΩ : real (call S) = Ω) (hE : theEnc = E) {fu : Nat} {a1 : Sl Field} {a2 : ByteArray} {b0 c0 : Option X.Ex} {b1 c1 : Value} {S : ((Option X.Ex) × Value) → St} {lz0 iz0 iz1 : Nat} (e0 : b0 = c0) (e1 : b1 = c1) (hg0 : ∀ s, X.look (S s) lz0 iz0 = some (X.Obj.loop 117 [(4, PV.ptr 0 iz1 0)] s.1)) (hu0 : ∀ s x, X.setO (S s) lz0 iz0 (X.Obj.loop 117 [(4, PV.ptr 0 iz1 0)] x) = S (x, s.2)) (hg1 : ∀ s, X.look (S s) lz0 iz1 = some (X.Obj.box 27 (bx_27 E s.2))) (hu1 : ∀ s x, X.setO (S s) lz0 iz1 (X.Obj.box 27 (bx_27 E x)) = S (s.1, x)) {r : (Option X.Ex) × Value} (h : P52x1 fu a1 a2 b0 b1 = some r) {args : List PV} (ha : [PV.yld lz0 iz0, PV.eptr [.sl (E.L_Field a1.l) (E.X_Field a1.x)], PV.eptr [.str a2]] = args) {st : St} (hst : S (c0, c1) = st) :
    Sat (Ω.cf 52 args st) (fun q => q = (PV.tup [], S (r.1, r.2))) := by
  subst ha
  subst hst
  subst e0
  subst e1
  rcases a1 with ⟨a1_l, a1_x⟩
  rcases b1 with ⟨b1_Kind, b1_N, b1_S, ⟨b1_L_l, b1_L_x⟩, ⟨b1_F_l, b1_F_x⟩, b1_Elem, b1_Key, b1_HasKey⟩
  rw [cf_body hΩ (f := 52) (fn := Try.f52) (x := c52) rfl rfl c52_ok rfl rfl rfl]
  unfold P52x1 at h
  try dsimp only at h
  conv => arg 1; cbv
  refine sat_call (ok53 hΩ hE (a0 := (Sl.mk a1_l a1_x)) (by (try clear h); subst_vars; rfl) _) ?_
  conv => arg 1; cbv
  obtain ⟨⟨wr2, wr3, ⟨wr4_Kind, wr4_N, wr4_S, ⟨wr4_L_l, wr4_L_x⟩, ⟨wr4_F_l, wr4_F_x⟩, wr4_Elem, wr4_Key, wr4_HasKey⟩⟩, hx1, hz⟩ := Option.bind_eq_some_iff.1 h
  clear h
  have h := hz
  clear hz
  try dsimp only at h
  refine sat_call (ok71x1 hΩ hE (S := (fun (s : (Option X.Ex) × (Option X.Ex) × Value) => ([X.Obj.box 66 [.yld (lz0+1) iz0], X.Obj.loop 118 [(2, PV.eptr [.str a2]), (3, PV.ptr 0 0 0)] s.1] : List X.Obj) :: S (s.2.1, s.2.2))) (lz0 := 0) (lz1 := (lz0+1)) (ly1 := (lz0+1)) (iz0 := 1) (iz1 := 0) (iz2 := iz0) (iz3 := iz1) (c0 := none) (c2 := b0) (c3 := (Value.mk b1_Kind b1_N b1_S (Sl.mk b1_L_l b1_L_x) (Sl.mk b1_F_l b1_F_x) b1_Elem b1_Key b1_HasKey)) (by first | rfl | omega) (by (try clear h); subst_vars; rfl) (by (try clear h); subst_vars; rfl) (by (try clear h); subst_vars; rfl) (fun s => rfl) (fun s x => rfl) (fun s => rfl) (fun s => hg0 (s.2.1, s.2.2)) (fun s x => congrArg (List.cons _) (hu0 (s.2.1, s.2.2) x)) (fun s => hg1 (s.2.1, s.2.2)) (fun s x => congrArg (List.cons _) (hu1 (s.2.1, s.2.2) x)) hx1 (by (try clear h); subst_vars; rfl) (by (try clear h); subst_vars; rfl)) ?_
  conv => arg 1; cbv
  rcases wr2 with _ | (_ | id | _)
  · try dsimp only at h
    conv => arg 1; cbv
    obtain rfl := Option.some.inj h
    subst_vars
    exact sat_pure rfl
  · try dsimp only at h
    cases h
  ·
    try dsimp only at h
    cases h
  · try dsimp only at h
    conv => arg 1; cbv
    obtain rfl := Option.some.inj h
    subst_vars
    exact sat_pure rfl
set_option maxHeartbeats 4000000 in
theorem ok9 {Ω : Om} {E : Enc} (hΩ : real (call S) = Ω) (hE : theEnc = E) {fu : Nat} {a0 : Sl Field} {a1 : ByteArray} {r : Value} (h : P9 fu a0 a1 = some r) {args : List PV} (ha : [PV.d (.sl (E.L_Field a0.l) (E.X_Field a0.x)), PV.d (.str a1)] = args) (st : St) :
    Sat (Ω.cf 9 args st) (fun q => q = (pv_Value E r, st)) := by
  subst ha
  rcases a0 with ⟨a0_l, a0_x⟩
  rw [cf_body hΩ (f := 9) (fn := Try.f9) (x := c9) rfl rfl c9_ok rfl rfl rfl]
  unfold P9 at h
  try dsimp only at h
  conv => arg 1; cbv
  refine sat_call (ok29 hΩ hE (a0 := (Sl.mk a0_l a0_x)) (a1 := a1) (by (try clear h); subst_vars; rfl) _) ?_
  conv => arg 1; cbv
  obtain ⟨⟨wr2, ⟨wr3_Kind, wr3_N, wr3_S, ⟨wr3_L_l, wr3_L_x⟩, ⟨wr3_F_l, wr3_F_x⟩, wr3_Elem, wr3_Key, wr3_HasKey⟩⟩, hx1, hz⟩ := Option.bind_eq_some_iff.1 h
  clear h
  have h := hz
  clear hz
  try dsimp only at h
  refine sat_call (ok52x1 hΩ hE (S := (fun (s : (Option X.Ex) × Value) => ([X.Obj.box 27 (bx_27 E s.2), X.Obj.loop 117 [(4, PV.ptr 0 0 0)] s.1] : List X.Obj) :: st)) (lz0 := 0) (iz0 := 1) (iz1 := 0) (c0 := none) (c1 := (Value.mk 0 0 ByteArray.empty (Sl.mk [] (some [])) (Sl.mk [] (some [])) 0 ByteArray.empty false)) (by (try clear h); subst_vars; rfl) (by (try clear h); subst_vars; rfl) (fun s => rfl) (fun s x => rfl) (fun s => rfl) (fun s x => rfl) hx1 (by (try clear h); subst_vars; rfl) (by (try clear h); subst_vars; rfl)) ?_
  conv => arg 1; cbv
  rcases wr2 with _ | (_ | id | _)
  · try dsimp only at h
    conv => arg 1; cbv
    obtain rfl := Option.some.inj h
    subst_vars
    exact sat_pure rfl
  · try dsimp only at h
    cases h
  ·
    try dsimp only at h
    cases h
  · try dsimp only at h
    conv => arg 1; cbv
    obtain rfl := Option.some.inj h
    subst_vars
    exact sat_pure rfl
set_option maxHeartbeats 4000000 in
theorem ok36 {Ω : Om} {E : Enc} (hΩ : real (call S) = Ω) (hE : theEnc = E) {fu : Nat} {a0 : Sl Value} {a1 : Sl Value} {a2 : (Value → Value → Option (Bool))} {a2_g : Nat} (hf : ∀ {x0 : Value} {x1 : Value} {r : Bool}, a2 x0 x1 = some r → ∀ {args : List PV}, [pv_Value E x0, pv_Value E x1] = args → ∀ (st : St), Sat (Ω.cf a2_g args st) (fun q => q = (PV.d (.bool r), st))) {r : Bool} (h : P36 fu a0 a1 a2 = some r) {args : List PV} (ha : [PV.d (.sl (E.L_Value a0.l) (E.X_Value a0.x)), PV.d (.sl (E.L_Value a1.l) (E.X_Value a1.x)), PV.d (.fn a2_g [])] = args) (st : St) :
    Sat (Ω.cf 36 args st) (fun q => q = (PV.d (.bool r), st)) := by
  subst ha
  rcases a0 with ⟨a0_l, a0_x⟩
  rcases a1 with ⟨a1_l, a1_x⟩
  rw [cf_body hΩ (f := 36) (fn := Try.f36) (x := c36) rfl rfl c36_ok rfl rfl rfl]
  unfold P36 at h
  try dsimp only at h
  conv => arg 1; cbv
  refine sat_len hΩ (ro_Value hE) a0_l (by first | rfl | ((try clear h); subst_vars; rfl)) fun n1 hn2 => ?_
  conv => arg 1; cbv
  refine sat_len hΩ (ro_Value hE) a1_l (by first | rfl | ((try clear h); subst_vars; rfl)) fun n3 hn4 => ?_
  conv => arg 1; cbv
  refine sat_in hΩ ?_
  conv => arg 1; cbv
  replace h := bif_cases h
  rcases h with ⟨hb5, h⟩ | ⟨hb5, h⟩
  · refine sat_brt (by first | exact hb5 | ((try clear h); subst_vars; first | exact hb5 | rfl)) ?_
    conv => arg 1; cbv
    obtain rfl := Option.some.inj h
    subst_vars
    exact sat_pure rfl
  · refine sat_brf (by first | exact hb5 | ((try clear h); subst_vars; first | exact hb5 | rfl)) ?_
    conv => arg 1; cbv
    refine sat_len hΩ (ro_Value hE) a0_l (by first | rfl | ((try clear h); subst_vars; rfl)) fun n6 hn7 => ?_
    conv => arg 1; cbv
    obtain ⟨q, hl17, hz⟩ := Option.bind_eq_some_iff.1 h
    clear h
    have h := hz
    clear hz
    refine sat_loop hΩ (fun (a : Int) => (match a with | i8 => ([(0, PV.d (.sl (E.L_Value a0_l) (E.X_Value a0_x))), (1, PV.d (.sl (E.L_Value a1_l) (E.X_Value a1_x))), (2, PV.d (.fn a2_g [])), (6, PV.d (.bool false)), (15, PV.d (.sl (E.L_Value a0_l) (E.X_Value a0_x))), (16, PV.d (.int .i64 n6)), (17, PV.d (.int .i64 i8))], ([] : List X.Obj) :: st))) (fun (q : Int ⊕ Int) => (match q with | .inl o18 => (.exit 0, [(0, PV.d (.sl (E.L_Value a0_l) (E.X_Value a0_x))), (1, PV.d (.sl (E.L_Value a1_l) (E.X_Value a1_x))), (2, PV.d (.fn a2_g [])), (6, PV.d (.bool false)), (15, PV.d (.sl (E.L_Value a0_l) (E.X_Value a0_x))), (16, PV.d (.int .i64 n6)), (17, PV.d (.int .i64 o18))], ([] : List X.Obj) :: st) | .inr o19 => (.ret, [(0, PV.d (.sl (E.L_Value a0_l) (E.X_Value a0_x))), (1, PV.d (.sl (E.L_Value a1_l) (E.X_Value a1_x))), (2, PV.d (.fn a2_g [])), (6, PV.d (.bool false)), (15, PV.d (.sl (E.L_Value a0_l) (E.X_Value a0_x))), (16, PV.d (.int .i64 n6)), (17, PV.d (.int .i64 o19))], ([] : List X.Obj) :: st))) 0 hl17 (by first | rfl | ((try clear h); subst_vars; rfl) | ((try clear h); subst_vars; simp only [ln_set])) ?_ ?_
    · clear h hl17
      rintro i8 q h
      unfold P36_s0 at h
      dsimp only at h
      conv => arg 1; cbv
      refine sat_in hΩ ?_
      conv => arg 1; cbv
      replace h := bif_cases h
      rcases h with ⟨hb9, h⟩ | ⟨hb9, h⟩
      · refine sat_brt (by first | exact hb9 | ((try clear h); subst_vars; first | exact hb9 | rfl)) ?_
        conv => arg 1; cbv
        refine sat_true (fits_l hΩ (ro_Value hE) a0_l (by first | rfl | ((try clear h); subst_vars; rfl))) ?_
        conv => arg 1; cbv
        obtain ⟨⟨x10_Kind, x10_N, x10_S, ⟨x10_L_l, x10_L_x⟩, ⟨x10_F_l, x10_F_x⟩, x10_Elem, x10_Key, x10_HasKey⟩, hx11, hz⟩ := Option.bind_eq_some_iff.1 h
        clear h
        have h := hz
        clear hz
        try dsimp only at h
        refine sat_bind (nth_ok hΩ (ro_Value hE) hx11 (by first | rfl | ((try clear h); subst_vars; rfl)) (by first | rfl | ((try clear h); subst_vars; rfl))) ?_
        conv => arg 1; cbv
        refine sat_true (fits_l hΩ (ro_Value hE) a1_l (by first | rfl | ((try clear h); subst_vars; rfl))) ?_
        conv => arg 1; cbv
        obtain ⟨⟨x12_Kind, x12_N, x12_S, ⟨x12_L_l, x12_L_x⟩, ⟨x12_F_l, x12_F_x⟩, x12_Elem, x12_Key, x12_HasKey⟩, hx13, hz⟩ := Option.bind_eq_some_iff.1 h
        clear h
        have h := hz
        clear hz
        try dsimp only at h
        refine sat_bind (nth_ok hΩ (ro_Value hE) hx13 (by first | rfl | ((try clear h); subst_vars; rfl)) (by first | rfl | ((try clear h); subst_vars; rfl))) ?_
        conv => arg 1; cbv
        obtain ⟨r14, hx15, hz⟩ := Option.bind_eq_some_iff.1 h
        clear h
        have h := hz
        clear hz
        refine sat_call (hf hx15 (by (try clear h); subst_vars; rfl) _) ?_
        conv => arg 1; cbv
        refine sat_in hΩ ?_
        conv => arg 1; cbv
        replace h := bif_cases h
        rcases h with ⟨hb16, h⟩ | ⟨hb16, h⟩
        · refine sat_brt (by first | exact hb16 | ((try clear h); subst_vars; first | exact hb16 | rfl)) ?_
          conv => arg 1; cbv
          obtain rfl := Option.some.inj h
          subst_vars
          first | exact sat_pure (.inr ⟨rfl, rfl⟩) | (refine sat_pure (.inr ⟨rfl, ?_⟩); dsimp only; simp only [ln_set]; rfl)
        · refine sat_brf (by first | exact hb16 | ((try clear h); subst_vars; first | exact hb16 | rfl)) ?_
          conv => arg 1; cbv
          obtain rfl := Option.some.inj h
          subst_vars
          first | exact sat_pure ⟨rfl, rfl, rfl⟩ | (refine sat_pure ⟨rfl, ?_, ?_⟩ <;> first | rfl | (dsimp only; simp only [ln_set]; rfl))
      · refine sat_brf (by first | exact hb9 | ((try clear h); subst_vars; first | exact hb9 | rfl)) ?_
        conv => arg 1; cbv
        obtain rfl := Option.some.inj h
        subst_vars
        first | exact sat_pure (.inl ⟨⟨_, rfl⟩, rfl⟩) | (refine sat_pure (.inl ⟨⟨_, rfl⟩, ?_⟩); dsimp only; simp only [ln_set]; rfl)
    · clear hl17
      rcases q with o18 | o19
      · dsimp only at h
        conv => arg 1; cbv
        obtain rfl := Option.some.inj h
        subst_vars
        exact sat_pure rfl
      · dsimp only at h
        conv => arg 1; cbv
        obtain rfl := Option.some.inj h
        subst_vars
        exact sat_pure rfl
set_option maxHeartbeats 4000000 in
theorem ok72 {Ω : Om} {E : Enc} (hΩ : real (call S) = Ω) (hE : theEnc = E) {fu : Nat} {a0 : Sl Field} {a1 : Sl Field} {a2 : (Field → Field → Option (Bool))} {a2_g : Nat} (hf : ∀ {x0 : Field} {x1 : Field} {r : Bool}, a2 x0 x1 = some r → ∀ {args : List PV}, [pv_Field E x0, pv_Field E x1] = args → ∀ (st : St), Sat (Ω.cf a2_g args st) (fun q => q = (PV.d (.bool r), st))) {r : Bool} (h : P72 fu a0 a1 a2 = some r) {args : List PV} (ha : [PV.d (.sl (E.L_Field a0.l) (E.X_Field a0.x)), PV.d (.sl (E.L_Field a1.l) (E.X_Field a1.x)), PV.d (.fn a2_g [])] = args) (st : St) :
    Sat (Ω.cf 72 args st) (fun q => q = (PV.d (.bool r), st)) := by
  subst ha
  rcases a0 with ⟨a0_l, a0_x⟩
  rcases a1 with ⟨a1_l, a1_x⟩
  rw [cf_body hΩ (f := 72) (fn := Try.f72) (x := c72) rfl rfl c72_ok rfl rfl rfl]
  unfold P72 at h
  try dsimp only at h
  conv => arg 1; cbv
  refine sat_len hΩ (ro_Field hE) a0_l (by first | rfl | ((try clear h); subst_vars; rfl)) fun n1 hn2 => ?_
  conv => arg 1; cbv
  refine sat_len hΩ (ro_Field hE) a1_l (by first | rfl | ((try clear h); subst_vars; rfl)) fun n3 hn4 => ?_
  conv => arg 1; cbv
  refine sat_in hΩ ?_
  conv => arg 1; cbv
  replace h := bif_cases h
  rcases h with ⟨hb5, h⟩ | ⟨hb5, h⟩
  · refine sat_brt (by first | exact hb5 | ((try clear h); subst_vars; first | exact hb5 | rfl)) ?_
    conv => arg 1; cbv
    obtain rfl := Option.some.inj h
    subst_vars
    exact sat_pure rfl
  · refine sat_brf (by first | exact hb5 | ((try clear h); subst_vars; first | exact hb5 | rfl)) ?_
    conv => arg 1; cbv
    refine sat_len hΩ (ro_Field hE) a0_l (by first | rfl | ((try clear h); subst_vars; rfl)) fun n6 hn7 => ?_
    conv => arg 1; cbv
    obtain ⟨q, hl17, hz⟩ := Option.bind_eq_some_iff.1 h
    clear h
    have h := hz
    clear hz
    refine sat_loop hΩ (fun (a : Int) => (match a with | i8 => ([(0, PV.d (.sl (E.L_Field a0_l) (E.X_Field a0_x))), (1, PV.d (.sl (E.L_Field a1_l) (E.X_Field a1_x))), (2, PV.d (.fn a2_g [])), (6, PV.d (.bool false)), (15, PV.d (.sl (E.L_Field a0_l) (E.X_Field a0_x))), (16, PV.d (.int .i64 n6)), (17, PV.d (.int .i64 i8))], ([] : List X.Obj) :: st))) (fun (q : Int ⊕ Int) => (match q with | .inl o18 => (.exit 0, [(0, PV.d (.sl (E.L_Field a0_l) (E.X_Field a0_x))), (1, PV.d (.sl (E.L_Field a1_l) (E.X_Field a1_x))), (2, PV.d (.fn a2_g [])), (6, PV.d (.bool false)), (15, PV.d (.sl (E.L_Field a0_l) (E.X_Field a0_x))), (16, PV.d (.int .i64 n6)), (17, PV.d (.int .i64 o18))], ([] : List X.Obj) :: st) | .inr o19 => (.ret, [(0, PV.d (.sl (E.L_Field a0_l) (E.X_Field a0_x))), (1, PV.d (.sl (E.L_Field a1_l) (E.X_Field a1_x))), (2, PV.d (.fn a2_g [])), (6, PV.d (.bool false)), (15, PV.d (.sl (E.L_Field a0_l) (E.X_Field a0_x))), (16, PV.d (.int .i64 n6)), (17, PV.d (.int .i64 o19))], ([] : List X.Obj) :: st))) 0 hl17 (by first | rfl | ((try clear h); subst_vars; rfl) | ((try clear h); subst_vars; simp only [ln_set])) ?_ ?_
    · clear h hl17
      rintro i8 q h
      unfold P72_s0 at h
      dsimp only at h
      conv => arg 1; cbv
      refine sat_in hΩ ?_
      conv => arg 1; cbv
      replace h := bif_cases h
      rcases h with ⟨hb9, h⟩ | ⟨hb9, h⟩
      · refine sat_brt (by first | exact hb9 | ((try clear h); subst_vars; first | exact hb9 | rfl)) ?_
        conv => arg 1; cbv
        refine sat_true (fits_l hΩ (ro_Field hE) a0_l (by first | rfl | ((try clear h); subst_vars; rfl))) ?_
        conv => arg 1; cbv
        obtain ⟨⟨x10_Name, ⟨x10_Value__Kind, x10_Value__N, x10_Value__S, ⟨x10_Value__L_l, x10_Value__L_x⟩, ⟨x10_Value__F_l, x10_Value__F_x⟩, x10_Value__Elem, x10_Value__Key, x10_Value__HasKey⟩⟩, hx11, hz⟩ := Option.bind_eq_some_iff.1 h
        clear h
        have h := hz
        clear hz
        try dsimp only at h
        refine sat_bind (nth_ok hΩ (ro_Field hE) hx11 (by first | rfl | ((try clear h); subst_vars; rfl)) (by first | rfl | ((try clear h); subst_vars; rfl))) ?_
        conv => arg 1; cbv
        refine sat_true (fits_l hΩ (ro_Field hE) a1_l (by first | rfl | ((try clear h); subst_vars; rfl))) ?_
        conv => arg 1; cbv
        obtain ⟨⟨x12_Name, ⟨x12_Value__Kind, x12_Value__N, x12_Value__S, ⟨x12_Value__L_l, x12_Value__L_x⟩, ⟨x12_Value__F_l, x12_Value__F_x⟩, x12_Value__Elem, x12_Value__Key, x12_Value__HasKey⟩⟩, hx13, hz⟩ := Option.bind_eq_some_iff.1 h
        clear h
        have h := hz
        clear hz
        try dsimp only at h
        refine sat_bind (nth_ok hΩ (ro_Field hE) hx13 (by first | rfl | ((try clear h); subst_vars; rfl)) (by first | rfl | ((try clear h); subst_vars; rfl))) ?_
        conv => arg 1; cbv
        obtain ⟨r14, hx15, hz⟩ := Option.bind_eq_some_iff.1 h
        clear h
        have h := hz
        clear hz
        refine sat_call (hf hx15 (by (try clear h); subst_vars; rfl) _) ?_
        conv => arg 1; cbv
        refine sat_in hΩ ?_
        conv => arg 1; cbv
        replace h := bif_cases h
        rcases h with ⟨hb16, h⟩ | ⟨hb16, h⟩
        · refine sat_brt (by first | exact hb16 | ((try clear h); subst_vars; first | exact hb16 | rfl)) ?_
          conv => arg 1; cbv
          obtain rfl := Option.some.inj h
          subst_vars
          first | exact sat_pure (.inr ⟨rfl, rfl⟩) | (refine sat_pure (.inr ⟨rfl, ?_⟩); dsimp only; simp only [ln_set]; rfl)
        · refine sat_brf (by first | exact hb16 | ((try clear h); subst_vars; first | exact hb16 | rfl)) ?_
          conv => arg 1; cbv
          obtain rfl := Option.some.inj h
          subst_vars
          first | exact sat_pure ⟨rfl, rfl, rfl⟩ | (refine sat_pure ⟨rfl, ?_, ?_⟩ <;> first | rfl | (dsimp only; simp only [ln_set]; rfl))
      · refine sat_brf (by first | exact hb9 | ((try clear h); subst_vars; first | exact hb9 | rfl)) ?_
        conv => arg 1; cbv
        obtain rfl := Option.some.inj h
        subst_vars
        first | exact sat_pure (.inl ⟨⟨_, rfl⟩, rfl⟩) | (refine sat_pure (.inl ⟨⟨_, rfl⟩, ?_⟩); dsimp only; simp only [ln_set]; rfl)
    · clear hl17
      rcases q with o18 | o19
      · dsimp only at h
        conv => arg 1; cbv
        obtain rfl := Option.some.inj h
        subst_vars
        exact sat_pure rfl
      · dsimp only at h
        conv => arg 1; cbv
        obtain rfl := Option.some.inj h
        subst_vars
        exact sat_pure rfl
set_option maxHeartbeats 4000000 in
theorem okb32 {Ω : Om} {E : Enc} (hΩ : real (call S) = Ω) (hE : theEnc = E) {fu : Nat} {p32 : Value → Value → Option (Bool)} (hp32 : ∀ {a0 : Value} {a1 : Value} {r : Bool}, p32 a0 a1 = some r → ∀ {args : List PV}, [pv_Value E a0, pv_Value E a1] = args → ∀ (st : St), Sat (Ω.cf 32 args st) (fun q => q = (PV.d (.bool r), st))) {p55 : (Sl Field) → (Sl Field) → Option (Bool)} (hp55 : ∀ {a0 : Sl Field} {a1 : Sl Field} {r : Bool}, p55 a0 a1 = some r → ∀ {args : List PV}, [PV.d (.sl (E.L_Field a0.l) (E.X_Field a0.x)), PV.d (.sl (E.L_Field a1.l) (E.X_Field a1.x))] = args → ∀ (st : St), Sat (Ω.cf 55 args st) (fun q => q = (PV.d (.bool r), st))) {p73 : Field → Field → Option (Bool)} (hp73 : ∀ {a0 : Field} {a1 : Field} {r : Bool}, p73 a0 a1 = some r → ∀ {args : List PV}, [pv_Field E a0, pv_Field E a1] = args → ∀ (st : St), Sat (Ω.cf 73 args st) (fun q => q = (PV.d (.bool r), st))) {a0 : Value} {a1 : Value} {r : Bool} (h : Pb32 fu p32 p55 p73 a0 a1 = some r) {args : List PV} (ha : [pv_Value E a0, pv_Value E a1] = args) (st : St) :
    Sat (Ω.cf 32 args st) (fun q => q = (PV.d (.bool r), st)) := by
  subst ha
  rcases a0 with ⟨a0_Kind, a0_N, a0_S, ⟨a0_L_l, a0_L_x⟩, ⟨a0_F_l, a0_F_x⟩, a0_Elem, a0_Key, a0_HasKey⟩
  rcases a1 with ⟨a1_Kind, a1_N, a1_S, ⟨a1_L_l, a1_L_x⟩, ⟨a1_F_l, a1_F_x⟩, a1_Elem, a1_Key, a1_HasKey⟩
  rw [cf_body hΩ (f := 32) (fn := Try.f32) (x := c32) rfl rfl c32_ok rfl rfl rfl]
  unfold Pb32 at h
  try dsimp only at h
  conv => arg 1; cbv
  obtain ⟨q, hq13, hz⟩ := Option.bind_eq_some_iff.1 h
  clear h
  have h := hz
  clear hz
  refine sat_grp hΩ ((fun (q : Bool) => (match q with | i12 => ([(0, PV.agg [.d (.int .u8 a0_Kind), .d (.int .i64 a0_N), .d (.str a0_S), .d (.sl (E.L_Value a0_L_l) (E.X_Value a0_L_x)), .d (.sl (E.L_Field a0_F_l) (E.X_Field a0_F_x)), .d (.int .u8 a0_Elem), .d (.str a0_Key), .d (.bool a0_HasKey)]), (1, PV.agg [.d (.int .u8 a1_Kind), .d (.int .i64 a1_N), .d (.str a1_S), .d (.sl (E.L_Value a1_L_l) (E.X_Value a1_L_x)), .d (.sl (E.L_Field a1_F_l) (E.X_Field a1_F_x)), .d (.int .u8 a1_Elem), .d (.str a1_Key), .d (.bool a1_HasKey)]), (2, PV.ptr 0 0 0), (3, PV.ptr 0 1 0), (4, PV.d (.bool i12))], ([X.Obj.box 27 [.d (.int .u8 a0_Kind), .d (.int .i64 a0_N), .d (.str a0_S), .d (.sl (E.L_Value a0_L_l) (E.X_Value a0_L_x)), .d (.sl (E.L_Field a0_F_l) (E.X_Field a0_F_x)), .d (.int .u8 a0_Elem), .d (.str a0_Key), .d (.bool a0_HasKey)], X.Obj.box 27 [.d (.int .u8 a1_Kind), .d (.int .i64 a1_N), .d (.str a1_S), .d (.sl (E.L_Value a1_L_l) (E.X_Value a1_L_x)), .d (.sl (E.L_Field a1_F_l) (E.X_Field a1_F_x)), .d (.int .u8 a1_Elem), .d (.str a1_Key), .d (.bool a1_HasKey)]] : List X.Obj) :: st))) q) (fun k hk => ?_) ?_
  · clear h
    have h := hq13
    clear hq13
    conv => arg 1; cbv
    replace h := bif_cases h
    rcases h with ⟨hb1, h⟩ | ⟨hb1, h⟩
    · refine sat_brt (by first | exact hb1 | ((try clear h); subst_vars; first | exact hb1 | rfl)) ?_
      conv => arg 1; cbv
      refine sat_tick hΩ ?_
      conv => arg 1; cbv
      replace h := bif_cases h
      rcases h with ⟨hb2, h⟩ | ⟨hb2, h⟩
      · refine sat_brt (by first | exact hb2 | ((try clear h); subst_vars; first | exact hb2 | rfl)) ?_
        conv => arg 1; cbv
        replace h := bif_cases h
        rcases h with ⟨hb3, h⟩ | ⟨hb3, h⟩
        · refine sat_brt (by first | exact hb3 | ((try clear h); subst_vars; first | exact hb3 | rfl)) ?_
          conv => arg 1; cbv
          refine sat_tick hΩ ?_
          conv => arg 1; cbv
          replace h := bif_cases h
          rcases h with ⟨hb4, h⟩ | ⟨hb4, h⟩
          · refine sat_brt (by first | exact hb4 | ((try clear h); subst_vars; first | exact hb4 | rfl)) ?_
            conv => arg 1; cbv
            replace h := bif_cases h
            rcases h with ⟨hb5, h⟩ | ⟨hb5, h⟩
            · refine sat_brt (by first | exact hb5 | ((try clear h); subst_vars; first | exact hb5 | rfl)) ?_
              conv => arg 1; cbv
              refine sat_tick hΩ ?_
              conv => arg 1; cbv
              replace h := bif_cases h
              rcases h with ⟨hb6, h⟩ | ⟨hb6, h⟩
              · refine sat_brt (by first | exact hb6 | ((try clear h); subst_vars; first | exact hb6 | rfl)) ?_
                conv => arg 1; cbv
                obtain ⟨r7, hx8, hz⟩ := Option.bind_eq_some_iff.1 h
                clear h
                have h := hz
                clear hz
                refine sat_call (ok36 hΩ hE (hf := fun h => @fun args ha st => hp32 h ha st) hx8 (by (try clear h); subst_vars; rfl) _) ?_
                conv => arg 1; cbv
                refine sat_tick hΩ ?_
                conv => arg 1; cbv
                replace h := bif_cases h
                rcases h with ⟨hb9, h⟩ | ⟨hb9, h⟩
                · refine sat_brt (by first | exact hb9 | ((try clear h); subst_vars; first | exact hb9 | rfl)) ?_
                  conv => arg 1; cbv
                  obtain ⟨r10, hx11, hz⟩ := Option.bind_eq_some_iff.1 h
                  clear h
                  have h := hz
                  clear hz
                  refine sat_call (hp55 hx11 (by (try clear h); subst_vars; rfl) _) ?_
                  conv => arg 1; cbv
                  obtain rfl := Option.some.inj h
                  subst_vars
                  first | exact hk | (simp only [ln_set] at hk ⊢; exact hk)
                · refine sat_brf (by first | exact hb9 | ((try clear h); subst_vars; first | exact hb9 | rfl)) ?_
                  conv => arg 1; cbv
                  obtain rfl := Option.some.inj h
                  subst_vars
                  first | exact hk | (simp only [ln_set] at hk ⊢; exact hk)
              · refine sat_brf (by first | exact hb6 | ((try clear h); subst_vars; first | exact hb6 | rfl)) ?_
                conv => arg 1; cbv
                refine sat_tick hΩ ?_
                conv => arg 1; cbv
                obtain rfl := Option.some.inj h
                subst_vars
                first | exact hk | (simp only [ln_set] at hk ⊢; exact hk)
            · refine sat_brf (by first | exact hb5 | ((try clear h); subst_vars; first | exact hb5 | rfl)) ?_
              conv => arg 1; cbv
              refine sat_tick hΩ ?_
              conv => arg 1; cbv
              refine sat_tick hΩ ?_
              conv => arg 1; cbv
              obtain rfl := Option.some.inj h
              subst_vars
              first | exact hk | (simp only [ln_set] at hk ⊢; exact hk)
          · refine sat_brf (by first | exact hb4 | ((try clear h); subst_vars; first | exact hb4 | rfl)) ?_
            conv => arg 1; cbv
            refine sat_tick hΩ ?_
            conv => arg 1; cbv
            refine sat_tick hΩ ?_
            conv => arg 1; cbv
            obtain rfl := Option.some.inj h
            subst_vars
            first | exact hk | (simp only [ln_set] at hk ⊢; exact hk)
        · refine sat_brf (by first | exact hb3 | ((try clear h); subst_vars; first | exact hb3 | rfl)) ?_
          conv => arg 1; cbv
          refine sat_tick hΩ ?_
          conv => arg 1; cbv
          refine sat_tick hΩ ?_
          conv => arg 1; cbv
          refine sat_tick hΩ ?_
          conv => arg 1; cbv
          obtain rfl := Option.some.inj h
          subst_vars
          first | exact hk | (simp only [ln_set] at hk ⊢; exact hk)
      · refine sat_brf (by first | exact hb2 | ((try clear h); subst_vars; first | exact hb2 | rfl)) ?_
        conv => arg 1; cbv
        refine sat_tick hΩ ?_
        conv => arg 1; cbv
        refine sat_tick hΩ ?_
        conv => arg 1; cbv
        refine sat_tick hΩ ?_
        conv => arg 1; cbv
        obtain rfl := Option.some.inj h
        subst_vars
        first | exact hk | (simp only [ln_set] at hk ⊢; exact hk)
    · refine sat_brf (by first | exact hb1 | ((try clear h); subst_vars; first | exact hb1 | rfl)) ?_
      conv => arg 1; cbv
      refine sat_tick hΩ ?_
      conv => arg 1; cbv
      refine sat_tick hΩ ?_
      conv => arg 1; cbv
      refine sat_tick hΩ ?_
      conv => arg 1; cbv
      refine sat_tick hΩ ?_
      conv => arg 1; cbv
      obtain rfl := Option.some.inj h
      subst_vars
      first | exact hk | (simp only [ln_set] at hk ⊢; exact hk)
  · clear hq13
    obtain ⟨i12, hqq⟩ : ∃ x, x = q := ⟨_, rfl⟩
    subst hqq
    try dsimp only at h
    conv => arg 1; cbv
    obtain rfl := Option.some.inj h
    subst_vars
    exact sat_pure rfl
set_option maxHeartbeats 4000000 in
theorem okb55 {Ω : Om} {E : Enc} (hΩ : real (call S) = Ω) (hE : theEnc = E) {fu : Nat} {p32 : Value → Value → Option (Bool)} (hp32 : ∀ {a0 : Value} {a1 : Value} {r : Bool}, p32 a0 a1 = some r → ∀ {args : List PV}, [pv_Value E a0, pv_Value E a1] = args → ∀ (st : St), Sat (Ω.cf 32 args st) (fun q => q = (PV.d (.bool r), st))) {p55 : (Sl Field) → (Sl Field) → Option (Bool)} (hp55 : ∀ {a0 : Sl Field} {a1 : Sl Field} {r : Bool}, p55 a0 a1 = some r → ∀ {args : List PV}, [PV.d (.sl (E.L_Field a0.l) (E.X_Field a0.x)), PV.d (.sl (E.L_Field a1.l) (E.X_Field a1.x))] = args → ∀ (st : St), Sat (Ω.cf 55 args st) (fun q => q = (PV.d (.bool r), st))) {p73 : Field → Field → Option (Bool)} (hp73 : ∀ {a0 : Field} {a1 : Field} {r : Bool}, p73 a0 a1 = some r → ∀ {args : List PV}, [pv_Field E a0, pv_Field E a1] = args → ∀ (st : St), Sat (Ω.cf 73 args st) (fun q => q = (PV.d (.bool r), st))) {a0 : Sl Field} {a1 : Sl Field} {r : Bool} (h : Pb55 fu p32 p55 p73 a0 a1 = some r) {args : List PV} (ha : [PV.d (.sl (E.L_Field a0.l) (E.X_Field a0.x)), PV.d (.sl (E.L_Field a1.l) (E.X_Field a1.x))] = args) (st : St) :
    Sat (Ω.cf 55 args st) (fun q => q = (PV.d (.bool r), st)) := by
  subst ha
  rcases a0 with ⟨a0_l, a0_x⟩
  rcases a1 with ⟨a1_l, a1_x⟩
  rw [cf_body hΩ (f := 55) (fn := Try.f55) (x := c55) rfl rfl c55_ok rfl rfl rfl]
  unfold Pb55 at h
  try dsimp only at h
  conv => arg 1; cbv
  obtain ⟨r1, hx2, hz⟩ := Option.bind_eq_some_iff.1 h
  clear h
  have h := hz
  clear hz
  refine sat_call (ok72 hΩ hE (hf := fun h => @fun args ha st => hp73 h ha st) hx2 (by (try clear h); subst_vars; rfl) _) ?_
  conv => arg 1; cbv
  obtain rfl := Option.some.inj h
  subst_vars
  exact sat_pure rfl
set_option maxHeartbeats 4000000 in
theorem okb73 {Ω : Om} {E : Enc} (hΩ : real (call S) = Ω) (hE : theEnc = E) {fu : Nat} {p32 : Value → Value → Option (Bool)} (hp32 : ∀ {a0 : Value} {a1 : Value} {r : Bool}, p32 a0 a1 = some r → ∀ {args : List PV}, [pv_Value E a0, pv_Value E a1] = args → ∀ (st : St), Sat (Ω.cf 32 args st) (fun q => q = (PV.d (.bool r), st))) {p55 : (Sl Field) → (Sl Field) → Option (Bool)} (hp55 : ∀ {a0 : Sl Field} {a1 : Sl Field} {r : Bool}, p55 a0 a1 = some r → ∀ {args : List PV}, [PV.d (.sl (E.L_Field a0.l) (E.X_Field a0.x)), PV.d (.sl (E.L_Field a1.l) (E.X_Field a1.x))] = args → ∀ (st : St), Sat (Ω.cf 55 args st) (fun q => q = (PV.d (.bool r), st))) {p73 : Field → Field → Option (Bool)} (hp73 : ∀ {a0 : Field} {a1 : Field} {r : Bool}, p73 a0 a1 = some r → ∀ {args : List PV}, [pv_Field E a0, pv_Field E a1] = args → ∀ (st : St), Sat (Ω.cf 73 args st) (fun q => q = (PV.d (.bool r), st))) {a0 : Field} {a1 : Field} {r : Bool} (h : Pb73 fu p32 p55 p73 a0 a1 = some r) {args : List PV} (ha : [pv_Field E a0, pv_Field E a1] = args) (st : St) :
    Sat (Ω.cf 73 args st) (fun q => q = (PV.d (.bool r), st)) := by
  subst ha
  rcases a0 with ⟨a0_Name, ⟨a0_Value__Kind, a0_Value__N, a0_Value__S, ⟨a0_Value__L_l, a0_Value__L_x⟩, ⟨a0_Value__F_l, a0_Value__F_x⟩, a0_Value__Elem, a0_Value__Key, a0_Value__HasKey⟩⟩
  rcases a1 with ⟨a1_Name, ⟨a1_Value__Kind, a1_Value__N, a1_Value__S, ⟨a1_Value__L_l, a1_Value__L_x⟩, ⟨a1_Value__F_l, a1_Value__F_x⟩, a1_Value__Elem, a1_Value__Key, a1_Value__HasKey⟩⟩
  rw [cf_body hΩ (f := 73) (fn := Try.f73) (x := c73) rfl rfl c73_ok rfl rfl rfl]
  unfold Pb73 at h
  try dsimp only at h
  conv => arg 1; cbv
  obtain ⟨q, hq5, hz⟩ := Option.bind_eq_some_iff.1 h
  clear h
  have h := hz
  clear hz
  refine sat_grp hΩ ((fun (q : Bool) => (match q with | i4 => ([(0, PV.agg [.d (.str a0_Name), .d (.int .u8 a0_Value__Kind), .d (.int .i64 a0_Value__N), .d (.str a0_Value__S), .d (.sl (E.L_Value a0_Value__L_l) (E.X_Value a0_Value__L_x)), .d (.sl (E.L_Field a0_Value__F_l) (E.X_Field a0_Value__F_x)), .d (.int .u8 a0_Value__Elem), .d (.str a0_Value__Key), .d (.bool a0_Value__HasKey)]), (1, PV.agg [.d (.str a1_Name), .d (.int .u8 a1_Value__Kind), .d (.int .i64 a1_Value__N), .d (.str a1_Value__S), .d (.sl (E.L_Value a1_Value__L_l) (E.X_Value a1_Value__L_x)), .d (.sl (E.L_Field a1_Value__F_l) (E.X_Field a1_Value__F_x)), .d (.int .u8 a1_Value__Elem), .d (.str a1_Value__Key), .d (.bool a1_Value__HasKey)]), (2, PV.ptr 0 0 0), (3, PV.ptr 0 1 0), (4, PV.d (.bool i4))], ([X.Obj.box 49 [.d (.str a0_Name), .d (.int .u8 a0_Value__Kind), .d (.int .i64 a0_Value__N), .d (.str a0_Value__S), .d (.sl (E.L_Value a0_Value__L_l) (E.X_Value a0_Value__L_x)), .d (.sl (E.L_Field a0_Value__F_l) (E.X_Field a0_Value__F_x)), .d (.int .u8 a0_Value__Elem), .d (.str a0_Value__Key), .d (.bool a0_Value__HasKey)], X.Obj.box 49 [.d (.str a1_Name), .d (.int .u8 a1_Value__Kind), .d (.int .i64 a1_Value__N), .d (.str a1_Value__S), .d (.sl (E.L_Value a1_Value__L_l) (E.X_Value a1_Value__L_x)), .d (.sl (E.L_Field a1_Value__F_l) (E.X_Field a1_Value__F_x)), .d (.int .u8 a1_Value__Elem), .d (.str a1_Value__Key), .d (.bool a1_Value__HasKey)]] : List X.Obj) :: st))) q) (fun k hk => ?_) ?_
  · clear h
    have h := hq5
    clear hq5
    conv => arg 1; cbv
    replace h := bif_cases h
    rcases h with ⟨hb1, h⟩ | ⟨hb1, h⟩
    · refine sat_brt (by first | exact hb1 | ((try clear h); subst_vars; first | exact hb1 | rfl)) ?_
      conv => arg 1; cbv
      obtain ⟨r2, hx3, hz⟩ := Option.bind_eq_some_iff.1 h
      clear h
      have h := hz
      clear hz
      refine sat_call (hp32 hx3 (by (try clear h); subst_vars; rfl) _) ?_
      conv => arg 1; cbv
      refine sat_tick hΩ ?_
      conv => arg 1; cbv
      obtain rfl := Option.some.inj h
      subst_vars
      first | exact hk | (simp only [ln_set] at hk ⊢; exact hk)
    · refine sat_brf (by first | exact hb1 | ((try clear h); subst_vars; first | exact hb1 | rfl)) ?_
      conv => arg 1; cbv
      refine sat_tick hΩ ?_
      conv => arg 1; cbv
      obtain rfl := Option.some.inj h
      subst_vars
      first | exact hk | (simp only [ln_set] at hk ⊢; exact hk)
  · clear hq5
    obtain ⟨i4, hqq⟩ : ∃ x, x = q := ⟨_, rfl⟩
    subst hqq
    try dsimp only at h
    conv => arg 1; cbv
    obtain rfl := Option.some.inj h
    subst_vars
    exact sat_pure rfl
theorem okr32 {Ω : Om} {E : Enc} (hΩ : real (call S) = Ω) (hE : theEnc = E) : ∀ fu,
    (∀ {a0 : Value} {a1 : Value} {r : Bool}, P32 fu a0 a1 = some r → ∀ {args : List PV}, [pv_Value E a0, pv_Value E a1] = args → ∀ (st : St), Sat (Ω.cf 32 args st) (fun q => q = (PV.d (.bool r), st))) ∧
    (∀ {a0 : Sl Field} {a1 : Sl Field} {r : Bool}, P55 fu a0 a1 = some r → ∀ {args : List PV}, [PV.d (.sl (E.L_Field a0.l) (E.X_Field a0.x)), PV.d (.sl (E.L_Field a1.l) (E.X_Field a1.x))] = args → ∀ (st : St), Sat (Ω.cf 55 args st) (fun q => q = (PV.d (.bool r), st))) ∧
    (∀ {a0 : Field} {a1 : Field} {r : Bool}, P73 fu a0 a1 = some r → ∀ {args : List PV}, [pv_Field E a0, pv_Field E a1] = args → ∀ (st : St), Sat (Ω.cf 73 args st) (fun q => q = (PV.d (.bool r), st))) := by
  intro fu
  induction fu with
  | zero => exact ⟨(fun h => (by cases h)), (fun h => (by cases h)), (fun h => (by cases h))⟩
  | succ fu ih =>
    obtain ⟨i32, i55, i73⟩ := ih
    exact ⟨(fun h => @fun args ha st => okb32 (fu := fu) hΩ hE i32 i55 i73 h ha st), (fun h => @fun args ha st => okb55 (fu := fu) hΩ hE i32 i55 i73 h ha st), (fun h => @fun args ha st => okb73 (fu := fu) hΩ hE i32 i55 i73 h ha st)⟩
theorem ok32 {Ω : Om} {E : Enc} (hΩ : real (call S) = Ω) (hE : theEnc = E) {fu : Nat} : ∀ {a0 : Value} {a1 : Value} {r : Bool}, P32 fu a0 a1 = some r → ∀ {args : List PV}, [pv_Value E a0, pv_Value E a1] = args → ∀ (st : St), Sat (Ω.cf 32 args st) (fun q => q = (PV.d (.bool r), st)) := (okr32 hΩ hE fu).1
theorem ok55 {Ω : Om} {E : Enc} (hΩ : real (call S) = Ω) (hE : theEnc = E) {fu : Nat} : ∀ {a0 : Sl Field} {a1 : Sl Field} {r : Bool}, P55 fu a0 a1 = some r → ∀ {args : List PV}, [PV.d (.sl (E.L_Field a0.l) (E.X_Field a0.x)), PV.d (.sl (E.L_Field a1.l) (E.X_Field a1.x))] = args → ∀ (st : St), Sat (Ω.cf 55 args st) (fun q => q = (PV.d (.bool r), st)) := (okr32 hΩ hE fu).2.1
theorem ok73 {Ω : Om} {E : Enc} (hΩ : real (call S) = Ω) (hE : theEnc = E) {fu : Nat} : ∀ {a0 : Field} {a1 : Field} {r : Bool}, P73 fu a0 a1 = some r → ∀ {args : List PV}, [pv_Field E a0, pv_Field E a1] = args → ∀ (st : St), Sat (Ω.cf 73 args st) (fun q => q = (PV.d (.bool r), st)) := (okr32 hΩ hE fu).2.2
set_option maxHeartbeats 4000000 in
theorem ok31x1 {Ω : Om} {E : Enc} (hΩ : real (call S) = Ω) (hE : theEnc = E) {fu : Nat} {a0 : Cell} {b0 c0 : Sl Field} {S : (Sl Field) → St} {lz0 iz0 : Nat} (e0 : b0 = c0) (hg0 : ∀ s, X.look (S s) lz0 iz0 = some (X.Obj.box 22 (bx_22 E s))) (hu0 : ∀ s x, X.setO (S s) lz0 iz0 (X.Obj.box 22 (bx_22 E x)) = S x) {r : Bool} (h : P31x1 fu a0 b0 = some r) {args : List PV} (ha : [pv_Cell E a0, PV.ptr lz0 iz0 0] = args) {st : St} (hst : S c0 = st) :
    Sat (Ω.cf 31 args st) (fun q => q = (PV.d (.bool r), S c0)) := by
  subst ha
  subst hst
  subst e0
  rcases a0 with ⟨a0_Kind, a0_Name, ⟨a0_Value__Kind, a0_Value__N, a0_Value__S, ⟨a0_Value__L_l, a0_Value__L_x⟩, ⟨a0_Value__F_l, a0_Value__F_x⟩, a0_Value__Elem, a0_Value__Key, a0_Value__HasKey⟩, ⟨a0_Next_Kind, a0_Next_N, a0_Next_S, ⟨a0_Next_L_l, a0_Next_L_x⟩, ⟨a0_Next_F_l, a0_Next_F_x⟩, a0_Next_Elem, a0_Next_Key, a0_Next_HasKey⟩, ⟨a0_Deps_l, a0_Deps_x⟩, ⟨a0_Do_l, a0_Do_x⟩, ⟨a0_Undo_l, a0_Undo_x⟩, ⟨a0_Env_l, a0_Env_x⟩, a0_Runs, a0_Ran, ⟨a0_Old_l, a0_Old_x⟩, ⟨a0_Past_l, a0_Past_x⟩⟩
  rcases b0 with ⟨b0_l, b0_x⟩
  rw [cf_body hΩ (f := 31) (fn := Try.f31) (x := c31) rfl rfl c31_ok rfl rfl rfl]
  unfold P31x1 at h
  try dsimp only at h
  conv => arg 1; cbv
  obtain ⟨q, hq7, hz⟩ := Option.bind_eq_some_iff.1 h
  clear h
  have h := hz
  clear hz
  refine sat_grp hΩ ((fun (q : Bool) => (match q with | i6 => ([(0, PV.agg [.d (.int .u8 a0_Kind), .d (.str a0_Name), .d (.int .u8 a0_Value__Kind), .d (.int .i64 a0_Value__N), .d (.str a0_Value__S), .d (.sl (E.L_Value a0_Value__L_l) (E.X_Value a0_Value__L_x)), .d (.sl (E.L_Field a0_Value__F_l) (E.X_Field a0_Value__F_x)), .d (.int .u8 a0_Value__Elem), .d (.str a0_Value__Key), .d (.bool a0_Value__HasKey), .d (.int .u8 a0_Next_Kind), .d (.int .i64 a0_Next_N), .d (.str a0_Next_S), .d (.sl (E.L_Value a0_Next_L_l) (E.X_Value a0_Next_L_x)), .d (.sl (E.L_Field a0_Next_F_l) (E.X_Field a0_Next_F_x)), .d (.int .u8 a0_Next_Elem), .d (.str a0_Next_Key), .d (.bool a0_Next_HasKey), .d (.sl (E.L_Value a0_Deps_l) (E.X_Value a0_Deps_x)), .d (.sl (E.L_Act a0_Do_l) (E.X_Act a0_Do_x)), .d (.sl (E.L_Act a0_Undo_l) (E.X_Act a0_Undo_x)), .d (.sl (E.L_Field a0_Env_l) (E.X_Field a0_Env_x)), .d (.bool a0_Runs), .d (.bool a0_Ran), .d (.sl (E.L_Act a0_Old_l) (E.X_Act a0_Old_x)), .d (.sl (E.L_Field a0_Past_l) (E.X_Field a0_Past_x))]), (1, PV.ptr (lz0+1) iz0 0), (2, PV.ptr 0 0 0), (3, PV.d (.bool i6))], ([X.Obj.box 61 [.d (.int .u8 a0_Kind), .d (.str a0_Name), .d (.int .u8 a0_Value__Kind), .d (.int .i64 a0_Value__N), .d (.str a0_Value__S), .d (.sl (E.L_Value a0_Value__L_l) (E.X_Value a0_Value__L_x)), .d (.sl (E.L_Field a0_Value__F_l) (E.X_Field a0_Value__F_x)), .d (.int .u8 a0_Value__Elem), .d (.str a0_Value__Key), .d (.bool a0_Value__HasKey), .d (.int .u8 a0_Next_Kind), .d (.int .i64 a0_Next_N), .d (.str a0_Next_S), .d (.sl (E.L_Value a0_Next_L_l) (E.X_Value a0_Next_L_x)), .d (.sl (E.L_Field a0_Next_F_l) (E.X_Field a0_Next_F_x)), .d (.int .u8 a0_Next_Elem), .d (.str a0_Next_Key), .d (.bool a0_Next_HasKey), .d (.sl (E.L_Value a0_Deps_l) (E.X_Value a0_Deps_x)), .d (.sl (E.L_Act a0_Do_l) (E.X_Act a0_Do_x)), .d (.sl (E.L_Act a0_Undo_l) (E.X_Act a0_Undo_x)), .d (.sl (E.L_Field a0_Env_l) (E.X_Field a0_Env_x)), .d (.bool a0_Runs), .d (.bool a0_Ran), .d (.sl (E.L_Act a0_Old_l) (E.X_Act a0_Old_x)), .d (.sl (E.L_Field a0_Past_l) (E.X_Field a0_Past_x))]] : List X.Obj) :: S (Sl.mk b0_l b0_x)))) q) (fun k hk => ?_) ?_
  · clear h
    have h := hq7
    clear hq7
    conv => arg 1; cbv
    replace h := bif_cases h
    rcases h with ⟨hb1, h⟩ | ⟨hb1, h⟩
    · refine sat_brt (by first | exact hb1 | ((try clear h); subst_vars; first | exact hb1 | rfl)) ?_
      conv => arg 1; cbv
      refine sat_far hΩ (hg0 _) rfl ?_
      conv => arg 1; cbv
      obtain ⟨⟨r2_Kind, r2_N, r2_S, ⟨r2_L_l, r2_L_x⟩, ⟨r2_F_l, r2_F_x⟩, r2_Elem, r2_Key, r2_HasKey⟩, hx3, hz⟩ := Option.bind_eq_some_iff.1 h
      clear h
      have h := hz
      clear hz
      try dsimp only at h
      refine sat_call (ok9 hΩ hE hx3 (by (try clear h); subst_vars; rfl) _) ?_
      conv => arg 1; cbv
      refine sat_true (same_ok hΩ _) ?_
      conv => arg 1; cbv
      obtain ⟨r4, hx5, hz⟩ := Option.bind_eq_some_iff.1 h
      clear h
      have h := hz
      clear hz
      refine sat_call (ok32 hΩ hE hx5 (by (try clear h); subst_vars; rfl) _) ?_
      conv => arg 1; cbv
      refine sat_true (same_ok hΩ _) ?_
      conv => arg 1; cbv
      refine sat_tick hΩ ?_
      conv => arg 1; cbv
      obtain rfl := Option.some.inj h
      subst_vars
      first | exact hk | (simp only [ln_set] at hk ⊢; exact hk)
    · refine sat_brf (by first | exact hb1 | ((try clear h); subst_vars; first | exact hb1 | rfl)) ?_
      conv => arg 1; cbv
      refine sat_tick hΩ ?_
      conv => arg 1; cbv
      obtain rfl := Option.some.inj h
      subst_vars
      first | exact hk | (simp only [ln_set] at hk ⊢; exact hk)
  · clear hq7
    obtain ⟨i6, hqq⟩ : ∃ x, x = q := ⟨_, rfl⟩
    subst hqq
    try dsimp only at h
    conv => arg 1; cbv
    obtain rfl := Option.some.inj h
    subst_vars
    exact sat_pure rfl
set_option maxHeartbeats 4000000 in
theorem ok54x1 {Ω : Om} {E : Enc} (hΩ : real (call S) = Ω) (hE : theEnc = E) {fu : Nat} {a0 : Sl Cell} {b0 c0 : Sl Field} {S : (Sl Field) → St} {lz0 iz0 : Nat} (e0 : b0 = c0) (hg0 : ∀ s, X.look (S s) lz0 iz0 = some (X.Obj.box 22 (bx_22 E s))) (hu0 : ∀ s x, X.setO (S s) lz0 iz0 (X.Obj.box 22 (bx_22 E x)) = S x) {r : Int} (h : P54x1 fu a0 b0 = some r) {args : List PV} (ha : [PV.d (.sl (E.L_Cell a0.l) (E.X_Cell a0.x)), PV.fn 31 [.ptr lz0 iz0 0]] = args) {st : St} (hst : S c0 = st) :
    Sat (Ω.cf 54 args st) (fun q => q = (PV.d (.int .i64 r), S c0)) := by
  subst ha
  subst hst
  subst e0
  rcases a0 with ⟨a0_l, a0_x⟩
  rcases b0 with ⟨b0_l, b0_x⟩
  rw [cf_body hΩ (f := 54) (fn := Try.f54) (x := c54) rfl rfl c54_ok rfl rfl rfl]
  unfold P54x1 at h
  try dsimp only at h
  conv => arg 1; cbv
  refine sat_len hΩ (ro_Cell hE) a0_l (by first | rfl | ((try clear h); subst_vars; rfl)) fun n1 hn2 => ?_
  conv => arg 1; cbv
  obtain ⟨q, hl11, hz⟩ := Option.bind_eq_some_iff.1 h
  clear h
  have h := hz
  clear hz
  refine sat_loop hΩ (fun (a : Int × Int) => (match a with | (i3, i4) => ([(0, PV.d (.sl (E.L_Cell a0_l) (E.X_Cell a0_x))), (1, PV.fn 31 [.ptr (lz0+1) iz0 0]), (4, PV.d (.int .i64 i3)), (7, PV.d (.int .i64 n1)), (8, PV.d (.int .i64 i4))], ([] : List X.Obj) :: S (Sl.mk b0_l b0_x)))) (fun (q : (Int × Int) ⊕ (Int × Int)) => (match q with | .inl (o12, o13) => (.exit 0, [(0, PV.d (.sl (E.L_Cell a0_l) (E.X_Cell a0_x))), (1, PV.fn 31 [.ptr (lz0+1) iz0 0]), (4, PV.d (.int .i64 o12)), (7, PV.d (.int .i64 n1)), (8, PV.d (.int .i64 o13))], ([] : List X.Obj) :: S (Sl.mk b0_l b0_x)) | .inr (o14, o15) => (.ret, [(0, PV.d (.sl (E.L_Cell a0_l) (E.X_Cell a0_x))), (1, PV.fn 31 [.ptr (lz0+1) iz0 0]), (4, PV.d (.int .i64 o14)), (7, PV.d (.int .i64 n1)), (8, PV.d (.int .i64 o15))], ([] : List X.Obj) :: S (Sl.mk b0_l b0_x)))) (0, 0) hl11 (by first | rfl | ((try clear h); subst_vars; rfl) | ((try clear h); subst_vars; simp only [ln_set])) ?_ ?_
  · clear h hl11
    rintro ⟨i3, i4⟩ q h
    unfold P54x1_s0 at h
    dsimp only at h
    conv => arg 1; cbv
    refine sat_in hΩ ?_
    conv => arg 1; cbv
    replace h := bif_cases h
    rcases h with ⟨hb5, h⟩ | ⟨hb5, h⟩
    · refine sat_brt (by first | exact hb5 | ((try clear h); subst_vars; first | exact hb5 | rfl)) ?_
      conv => arg 1; cbv
      refine sat_true (fits_l hΩ (ro_Cell hE) a0_l (by first | rfl | ((try clear h); subst_vars; rfl))) ?_
      conv => arg 1; cbv
      obtain ⟨⟨x6_Kind, x6_Name, ⟨x6_Value__Kind, x6_Value__N, x6_Value__S, ⟨x6_Value__L_l, x6_Value__L_x⟩, ⟨x6_Value__F_l, x6_Value__F_x⟩, x6_Value__Elem, x6_Value__Key, x6_Value__HasKey⟩, ⟨x6_Next_Kind, x6_Next_N, x6_Next_S, ⟨x6_Next_L_l, x6_Next_L_x⟩, ⟨x6_Next_F_l, x6_Next_F_x⟩, x6_Next_Elem, x6_Next_Key, x6_Next_HasKey⟩, ⟨x6_Deps_l, x6_Deps_x⟩, ⟨x6_Do_l, x6_Do_x⟩, ⟨x6_Undo_l, x6_Undo_x⟩, ⟨x6_Env_l, x6_Env_x⟩, x6_Runs, x6_Ran, ⟨x6_Old_l, x6_Old_x⟩, ⟨x6_Past_l, x6_Past_x⟩⟩, hx7, hz⟩ := Option.bind_eq_some_iff.1 h
      clear h
      have h := hz
      clear hz
      try dsimp only at h
      refine sat_bind (nth_ok hΩ (ro_Cell hE) hx7 (by first | rfl | ((try clear h); subst_vars; rfl)) (by first | rfl | ((try clear h); subst_vars; rfl))) ?_
      conv => arg 1; cbv
      obtain ⟨r9, hx8, hz⟩ := Option.bind_eq_some_iff.1 h
      clear h
      have h := hz
      clear hz
      refine sat_call (ok31x1 hΩ hE (S := (fun (s : (Sl Field)) => ([] : List X.Obj) :: S s)) (lz0 := (lz0+1)) (iz0 := iz0) (c0 := (Sl.mk b0_l b0_x)) (by (try clear h); subst_vars; rfl) (fun s => hg0 s) (fun s x => congrArg (List.cons _) (hu0 s x)) hx8 (by (try clear h); subst_vars; rfl) (by (try clear h); subst_vars; rfl)) ?_
      conv => arg 1; cbv
      refine sat_in hΩ ?_
      conv => arg 1; cbv
      replace h := bif_cases h
      rcases h with ⟨hb10, h⟩ | ⟨hb10, h⟩
      · refine sat_brt (by first | exact hb10 | ((try clear h); subst_vars; first | exact hb10 | rfl)) ?_
        conv => arg 1; cbv
        obtain rfl := Option.some.inj h
        subst_vars
        first | exact sat_pure (.inr ⟨rfl, rfl⟩) | (refine sat_pure (.inr ⟨rfl, ?_⟩); dsimp only; simp only [ln_set]; rfl)
      · refine sat_brf (by first | exact hb10 | ((try clear h); subst_vars; first | exact hb10 | rfl)) ?_
        conv => arg 1; cbv
        obtain rfl := Option.some.inj h
        subst_vars
        first | exact sat_pure ⟨rfl, rfl, rfl⟩ | (refine sat_pure ⟨rfl, ?_, ?_⟩ <;> first | rfl | (dsimp only; simp only [ln_set]; rfl))
    · refine sat_brf (by first | exact hb5 | ((try clear h); subst_vars; first | exact hb5 | rfl)) ?_
      conv => arg 1; cbv
      obtain rfl := Option.some.inj h
      subst_vars
      first | exact sat_pure (.inl ⟨⟨_, rfl⟩, rfl⟩) | (refine sat_pure (.inl ⟨⟨_, rfl⟩, ?_⟩); dsimp only; simp only [ln_set]; rfl)
  · clear hl11
    rcases q with ⟨o12, o13⟩ | ⟨o14, o15⟩
    · dsimp only at h
      conv => arg 1; cbv
      obtain rfl := Option.some.inj h
      subst_vars
      exact sat_pure rfl
    · dsimp only at h
      conv => arg 1; cbv
      obtain rfl := Option.some.inj h
      subst_vars
      exact sat_pure rfl
set_option maxHeartbeats 4000000 in
theorem ok30x1 {Ω : Om} {E : Enc} (hΩ : real (call S) = Ω) (hE : theEnc = E) {fu : Nat} {a0 : Sl Cell} {b0 c0 : Sl Field} {S : (Sl Field) → St} {lz0 iz0 : Nat} (e0 : b0 = c0) (hg0 : ∀ s, X.look (S s) lz0 iz0 = some (X.Obj.box 22 (bx_22 E s))) (hu0 : ∀ s x, X.setO (S s) lz0 iz0 (X.Obj.box 22 (bx_22 E x)) = S x) {r : Bool} (h : P30x1 fu a0 b0 = some r) {args : List PV} (ha : [PV.d (.sl (E.L_Cell a0.l) (E.X_Cell a0.x)), PV.fn 31 [.ptr lz0 iz0 0]] = args) {st : St} (hst : S c0 = st) :
    Sat (Ω.cf 30 args st) (fun q => q = (PV.d (.bool r), S c0)) := by
  subst ha
  subst hst
  subst e0
  rcases a0 with ⟨a0_l, a0_x⟩
  rcases b0 with ⟨b0_l, b0_x⟩
  rw [cf_body hΩ (f := 30) (fn := Try.f30) (x := c30) rfl rfl c30_ok rfl rfl rfl]
  unfold P30x1 at h
  try dsimp only at h
  conv => arg 1; cbv
  obtain ⟨r2, hx1, hz⟩ := Option.bind_eq_some_iff.1 h
  clear h
  have h := hz
  clear hz
  refine sat_call (ok54x1 hΩ hE (S := (fun (s : (Sl Field)) => ([] : List X.Obj) :: S s)) (lz0 := (lz0+1)) (iz0 := iz0) (c0 := (Sl.mk b0_l b0_x)) (by (try clear h); subst_vars; rfl) (fun s => hg0 s) (fun s x => congrArg (List.cons _) (hu0 s x)) hx1 (by (try clear h); subst_vars; rfl) (by (try clear h); subst_vars; rfl)) ?_
  conv => arg 1; cbv
  obtain rfl := Option.some.inj h
  subst_vars
  exact sat_pure rfl
set_option maxHeartbeats 4000000 in
theorem ok11 {Ω : Om} {E : Enc} (hΩ : real (call S) = Ω) (hE : theEnc = E) {fu : Nat} {a0 : Sl Cell} {a1 : Sl Field} {r : Bool} (h : P11 fu a0 a1 = some r) {args : List PV} (ha : [PV.d (.sl (E.L_Cell a0.l) (E.X_Cell a0.x)), PV.d (.sl (E.L_Field a1.l) (E.X_Field a1.x))] = args) (st : St) :
    Sat (Ω.cf 11 args st) (fun q => q = (PV.d (.bool r), st)) := by
  subst ha
  rcases a0 with ⟨a0_l, a0_x⟩
  rcases a1 with ⟨a1_l, a1_x⟩
  rw [cf_body hΩ (f := 11) (fn := Try.f11) (x := c11) rfl rfl c11_ok rfl rfl rfl]
  unfold P11 at h
  try dsimp only at h
  conv => arg 1; cbv
  obtain ⟨r2, hx1, hz⟩ := Option.bind_eq_some_iff.1 h
  clear h
  have h := hz
  clear hz
  refine sat_call (ok30x1 hΩ hE (S := (fun (s : (Sl Field)) => ([X.Obj.box 22 (bx_22 E s)] : List X.Obj) :: st)) (lz0 := 0) (iz0 := 0) (c0 := (Sl.mk a1_l a1_x)) (by (try clear h); subst_vars; rfl) (fun s => rfl) (fun s x => rfl) hx1 (by (try clear h); subst_vars; rfl) (by (try clear h); subst_vars; rfl)) ?_
  conv => arg 1; cbv
  obtain rfl := Option.some.inj h
  subst_vars
  exact sat_pure rfl
set_option maxHeartbeats 4000000 in
theorem ok34 {Ω : Om} {E : Enc} (hΩ : real (call S) = Ω) (hE : theEnc = E) {fu : Nat} {a0 : Sl Field} {a1 : ByteArray} {r : Value} (h : P34 fu a0 a1 = some r) {args : List PV} (ha : [PV.d (.sl (E.L_Field a0.l) (E.X_Field a0.x)), PV.d (.str a1)] = args) (st : St) :
    Sat (Ω.cf 34 args st) (fun q => q = (pv_Value E r, st)) := by
  subst ha
  rcases a0 with ⟨a0_l, a0_x⟩
  rw [cf_body hΩ (f := 34) (fn := Try.f34) (x := c34) rfl rfl c34_ok rfl rfl rfl]
  unfold P34 at h
  try dsimp only at h
  conv => arg 1; cbv
  refine sat_len hΩ (ro_Field hE) a0_l (by first | rfl | ((try clear h); subst_vars; rfl)) fun n1 hn2 => ?_
  conv => arg 1; cbv
  obtain ⟨q, hl18, hz⟩ := Option.bind_eq_some_iff.1 h
  clear h
  have h := hz
  clear hz
  refine sat_loop hΩ (fun (a : Int × Int × ByteArray × (List Value) × (Option (List Value)) × (List Field) × (Option (List Field)) × Int × ByteArray × Bool × Int) => (match a with | (c3, c4, c5, c6_l, c6_x, c7_l, c7_x, c8, c9, c10, i11) => ([(0, PV.d (.sl (E.L_Field a0_l) (E.X_Field a0_x))), (1, PV.d (.str a1)), (4, PV.ptr 0 0 0), (5, PV.d (.int .i64 i11))], ([X.Obj.box 27 [.d (.int .u8 c3), .d (.int .i64 c4), .d (.str c5), .d (.sl (E.L_Value c6_l) (E.X_Value c6_x)), .d (.sl (E.L_Field c7_l) (E.X_Field c7_x)), .d (.int .u8 c8), .d (.str c9), .d (.bool c10)]] : List X.Obj) :: st))) (fun (q : (Int × Int × ByteArray × (List Value) × (Option (List Value)) × (List Field) × (Option (List Field)) × Int × ByteArray × Bool × Int) ⊕ (Int × Int × ByteArray × (List Value) × (Option (List Value)) × (List Field) × (Option (List Field)) × Int × ByteArray × Bool × Int)) => (match q with | .inl (o19, o20, o21, o22, o23, o24, o25, o26, o27, o28, o29) => (.exit 0, [(0, PV.d (.sl (E.L_Field a0_l) (E.X_Field a0_x))), (1, PV.d (.str a1)), (4, PV.ptr 0 0 0), (5, PV.d (.int .i64 o29))], ([X.Obj.box 27 [.d (.int .u8 o19), .d (.int .i64 o20), .d (.str o21), .d (.sl (E.L_Value o22) (E.X_Value o23)), .d (.sl (E.L_Field o24) (E.X_Field o25)), .d (.int .u8 o26), .d (.str o27), .d (.bool o28)]] : List X.Obj) :: st) | .inr (o30, o31, o32, o33, o34, o35, o36, o37, o38, o39, o40) => (.ret, [(0, PV.d (.sl (E.L_Field a0_l) (E.X_Field a0_x))), (1, PV.d (.str a1)), (4, PV.ptr 0 0 0), (5, PV.d (.int .i64 o40))], ([X.Obj.box 27 [.d (.int .u8 o30), .d (.int .i64 o31), .d (.str o32), .d (.sl (E.L_Value o33) (E.X_Value o34)), .d (.sl (E.L_Field o35) (E.X_Field o36)), .d (.int .u8 o37), .d (.str o38), .d (.bool o39)]] : List X.Obj) :: st))) (0, 0, ByteArray.empty, [], (some []), [], (some []), 0, ByteArray.empty, false, w64 ((ln a0_l) - 1)) hl18 (by first | rfl | ((try clear h); subst_vars; rfl) | ((try clear h); subst_vars; simp only [ln_set])) ?_ ?_
  · clear h hl18
    rintro ⟨c3, c4, c5, c6_l, c6_x, c7_l, c7_x, c8, c9, c10, i11⟩ q h
    unfold P34_s0 at h
    dsimp only at h
    conv => arg 1; cbv
    refine sat_in hΩ ?_
    conv => arg 1; cbv
    replace h := bif_cases h
    rcases h with ⟨hb12, h⟩ | ⟨hb12, h⟩
    · refine sat_brt (by first | exact hb12 | ((try clear h); subst_vars; first | exact hb12 | rfl)) ?_
      conv => arg 1; cbv
      refine sat_true (fits_l hΩ (ro_Field hE) a0_l (by first | rfl | ((try clear h); subst_vars; rfl))) ?_
      conv => arg 1; cbv
      obtain ⟨⟨x13_Name, ⟨x13_Value__Kind, x13_Value__N, x13_Value__S, ⟨x13_Value__L_l, x13_Value__L_x⟩, ⟨x13_Value__F_l, x13_Value__F_x⟩, x13_Value__Elem, x13_Value__Key, x13_Value__HasKey⟩⟩, hx14, hz⟩ := Option.bind_eq_some_iff.1 h
      clear h
      have h := hz
      clear hz
      try dsimp only at h
      refine sat_bind (nth_ok hΩ (ro_Field hE) hx14 (by first | rfl | ((try clear h); subst_vars; rfl)) (by first | rfl | ((try clear h); subst_vars; rfl))) ?_
      conv => arg 1; cbv
      refine sat_in hΩ ?_
      conv => arg 1; cbv
      replace h := bif_cases h
      rcases h with ⟨hb15, h⟩ | ⟨hb15, h⟩
      · refine sat_brt (by first | exact hb15 | ((try clear h); subst_vars; first | exact hb15 | rfl)) ?_
        conv => arg 1; cbv
        refine sat_true (fits_l hΩ (ro_Field hE) a0_l (by first | rfl | ((try clear h); subst_vars; rfl))) ?_
        conv => arg 1; cbv
        obtain ⟨⟨x16_Name, ⟨x16_Value__Kind, x16_Value__N, x16_Value__S, ⟨x16_Value__L_l, x16_Value__L_x⟩, ⟨x16_Value__F_l, x16_Value__F_x⟩, x16_Value__Elem, x16_Value__Key, x16_Value__HasKey⟩⟩, hx17, hz⟩ := Option.bind_eq_some_iff.1 h
        clear h
        have h := hz
        clear hz
        try dsimp only at h
        refine sat_bind (nth_ok hΩ (ro_Field hE) hx17 (by first | rfl | ((try clear h); subst_vars; rfl)) (by first | rfl | ((try clear h); subst_vars; rfl))) ?_
        conv => arg 1; cbv
        obtain rfl := Option.some.inj h
        subst_vars
        first | exact sat_pure (.inr ⟨rfl, rfl⟩) | (refine sat_pure (.inr ⟨rfl, ?_⟩); dsimp only; simp only [ln_set]; rfl)
      · refine sat_brf (by first | exact hb15 | ((try clear h); subst_vars; first | exact hb15 | rfl)) ?_
        conv => arg 1; cbv
        obtain rfl := Option.some.inj h
        subst_vars
        first | exact sat_pure ⟨rfl, rfl, rfl⟩ | (refine sat_pure ⟨rfl, ?_, ?_⟩ <;> first | rfl | (dsimp only; simp only [ln_set]; rfl))
    · refine sat_brf (by first | exact hb12 | ((try clear h); subst_vars; first | exact hb12 | rfl)) ?_
      conv => arg 1; cbv
      obtain rfl := Option.some.inj h
      subst_vars
      first | exact sat_pure (.inl ⟨⟨_, rfl⟩, rfl⟩) | (refine sat_pure (.inl ⟨⟨_, rfl⟩, ?_⟩); dsimp only; simp only [ln_set]; rfl)
  · clear hl18
    rcases q with ⟨o19, o20, o21, o22, o23, o24, o25, o26, o27, o28, o29⟩ | ⟨o30, o31, o32, o33, o34, o35, o36, o37, o38, o39, o40⟩
    · dsimp only at h
      conv => arg 1; cbv
      obtain rfl := Option.some.inj h
      subst_vars
      exact sat_pure rfl
    · dsimp only at h
      conv => arg 1; cbv
      obtain rfl := Option.some.inj h
      subst_vars
      exact sat_pure rfl
set_option maxHeartbeats 4000000 in
theorem okb33 {Ω : Om} {E : Enc} (hΩ : real (call S) = Ω) (hE : theEnc = E) {fu : Nat} {p33 : Value → Value → Option (Bool)} (hp33 : ∀ {a0 : Value} {a1 : Value} {r : Bool}, p33 a0 a1 = some r → ∀ {args : List PV}, [pv_Value E a0, pv_Value E a1] = args → ∀ (st : St), Sat (Ω.cf 33 args st) (fun q => q = (PV.d (.bool r), st))) {p56 : (Sl Field) → (Sl Field) → Option (Bool)} (hp56 : ∀ {a0 : Sl Field} {a1 : Sl Field} {r : Bool}, p56 a0 a1 = some r → ∀ {args : List PV}, [PV.d (.sl (E.L_Field a0.l) (E.X_Field a0.x)), PV.d (.sl (E.L_Field a1.l) (E.X_Field a1.x))] = args → ∀ (st : St), Sat (Ω.cf 56 args st) (fun q => q = (PV.d (.bool r), st))) {a0 : Value} {a1 : Value} {r : Bool} (h : Pb33 fu p33 p56 a0 a1 = some r) {args : List PV} (ha : [pv_Value E a0, pv_Value E a1] = args) (st : St) :
    Sat (Ω.cf 33 args st) (fun q => q = (PV.d (.bool r), st)) := by
  subst ha
  rcases a0 with ⟨a0_Kind, a0_N, a0_S, ⟨a0_L_l, a0_L_x⟩, ⟨a0_F_l, a0_F_x⟩, a0_Elem, a0_Key, a0_HasKey⟩
  rcases a1 with ⟨a1_Kind, a1_N, a1_S, ⟨a1_L_l, a1_L_x⟩, ⟨a1_F_l, a1_F_x⟩, a1_Elem, a1_Key, a1_HasKey⟩
  rw [cf_body hΩ (f := 33) (fn := Try.f33) (x := c33) rfl rfl c33_ok rfl rfl rfl]
  unfold Pb33 at h
  try dsimp only at h
  conv => arg 1; cbv
  obtain ⟨q, hq29, hz⟩ := Option.bind_eq_some_iff.1 h
  clear h
  have h := hz
  clear hz
  refine sat_grp hΩ ((fun (q : Bool) => (match q with | i11 => ([(0, PV.agg [.d (.int .u8 a0_Kind), .d (.int .i64 a0_N), .d (.str a0_S), .d (.sl (E.L_Value a0_L_l) (E.X_Value a0_L_x)), .d (.sl (E.L_Field a0_F_l) (E.X_Field a0_F_x)), .d (.int .u8 a0_Elem), .d (.str a0_Key), .d (.bool a0_HasKey)]), (1, PV.agg [.d (.int .u8 a1_Kind), .d (.int .i64 a1_N), .d (.str a1_S), .d (.sl (E.L_Value a1_L_l) (E.X_Value a1_L_x)), .d (.sl (E.L_Field a1_F_l) (E.X_Field a1_F_x)), .d (.int .u8 a1_Elem), .d (.str a1_Key), .d (.bool a1_HasKey)]), (2, PV.ptr 0 0 0), (3, PV.ptr 0 1 0), (4, PV.d (.bool false)), (54, PV.d (.bool i11))], ([X.Obj.box 27 [.d (.int .u8 a0_Kind), .d (.int .i64 a0_N), .d (.str a0_S), .d (.sl (E.L_Value a0_L_l) (E.X_Value a0_L_x)), .d (.sl (E.L_Field a0_F_l) (E.X_Field a0_F_x)), .d (.int .u8 a0_Elem), .d (.str a0_Key), .d (.bool a0_HasKey)], X.Obj.box 27 [.d (.int .u8 a1_Kind), .d (.int .i64 a1_N), .d (.str a1_S), .d (.sl (E.L_Value a1_L_l) (E.X_Value a1_L_x)), .d (.sl (E.L_Field a1_F_l) (E.X_Field a1_F_x)), .d (.int .u8 a1_Elem), .d (.str a1_Key), .d (.bool a1_HasKey)]] : List X.Obj) :: st))) q) (fun k hk => ?_) ?_
  · clear h
    have h := hq29
    clear hq29
    conv => arg 1; cbv
    replace h := bif_cases h
    rcases h with ⟨hb1, h⟩ | ⟨hb1, h⟩
    · refine sat_brt (by first | exact hb1 | ((try clear h); subst_vars; first | exact hb1 | rfl)) ?_
      conv => arg 1; cbv
      refine sat_tick hΩ ?_
      conv => arg 1; cbv
      replace h := bif_cases h
      rcases h with ⟨hb2, h⟩ | ⟨hb2, h⟩
      · refine sat_brt (by first | exact hb2 | ((try clear h); subst_vars; first | exact hb2 | rfl)) ?_
        conv => arg 1; cbv
        replace h := bif_cases h
        rcases h with ⟨hb3, h⟩ | ⟨hb3, h⟩
        · refine sat_brt (by first | exact hb3 | ((try clear h); subst_vars; first | exact hb3 | rfl)) ?_
          conv => arg 1; cbv
          refine sat_tick hΩ ?_
          conv => arg 1; cbv
          replace h := bif_cases h
          rcases h with ⟨hb4, h⟩ | ⟨hb4, h⟩
          · refine sat_brt (by first | exact hb4 | ((try clear h); subst_vars; first | exact hb4 | rfl)) ?_
            conv => arg 1; cbv
            replace h := bif_cases h
            rcases h with ⟨hb5, h⟩ | ⟨hb5, h⟩
            · refine sat_brt (by first | exact hb5 | ((try clear h); subst_vars; first | exact hb5 | rfl)) ?_
              conv => arg 1; cbv
              refine sat_tick hΩ ?_
              conv => arg 1; cbv
              replace h := bif_cases h
              rcases h with ⟨hb6, h⟩ | ⟨hb6, h⟩
              · refine sat_brt (by first | exact hb6 | ((try clear h); subst_vars; first | exact hb6 | rfl)) ?_
                conv => arg 1; cbv
                refine sat_len hΩ (ro_Value hE) a0_L_l (by first | rfl | ((try clear h); subst_vars; rfl)) fun n7 hn8 => ?_
                conv => arg 1; cbv
                refine sat_len hΩ (ro_Value hE) a1_L_l (by first | rfl | ((try clear h); subst_vars; rfl)) fun n9 hn10 => ?_
                conv => arg 1; cbv
                refine sat_tick hΩ ?_
                conv => arg 1; cbv
                obtain rfl := Option.some.inj h
                subst_vars
                first | exact hk | (simp only [ln_set] at hk ⊢; exact hk)
              · refine sat_brf (by first | exact hb6 | ((try clear h); subst_vars; first | exact hb6 | rfl)) ?_
                conv => arg 1; cbv
                refine sat_tick hΩ ?_
                conv => arg 1; cbv
                obtain rfl := Option.some.inj h
                subst_vars
                first | exact hk | (simp only [ln_set] at hk ⊢; exact hk)
            · refine sat_brf (by first | exact hb5 | ((try clear h); subst_vars; first | exact hb5 | rfl)) ?_
              conv => arg 1; cbv
              refine sat_tick hΩ ?_
              conv => arg 1; cbv
              refine sat_tick hΩ ?_
              conv => arg 1; cbv
              obtain rfl := Option.some.inj h
              subst_vars
              first | exact hk | (simp only [ln_set] at hk ⊢; exact hk)
          · refine sat_brf (by first | exact hb4 | ((try clear h); subst_vars; first | exact hb4 | rfl)) ?_
            conv => arg 1; cbv
            refine sat_tick hΩ ?_
            conv => arg 1; cbv
            refine sat_tick hΩ ?_
            conv => arg 1; cbv
            obtain rfl := Option.some.inj h
            subst_vars
            first | exact hk | (simp only [ln_set] at hk ⊢; exact hk)
        · refine sat_brf (by first | exact hb3 | ((try clear h); subst_vars; first | exact hb3 | rfl)) ?_
          conv => arg 1; cbv
          refine sat_tick hΩ ?_
          conv => arg 1; cbv
          refine sat_tick hΩ ?_
          conv => arg 1; cbv
          refine sat_tick hΩ ?_
          conv => arg 1; cbv
          obtain rfl := Option.some.inj h
          subst_vars
          first | exact hk | (simp only [ln_set] at hk ⊢; exact hk)
      · refine sat_brf (by first | exact hb2 | ((try clear h); subst_vars; first | exact hb2 | rfl)) ?_
        conv => arg 1; cbv
        refine sat_tick hΩ ?_
        conv => arg 1; cbv
        refine sat_tick hΩ ?_
        conv => arg 1; cbv
        refine sat_tick hΩ ?_
        conv => arg 1; cbv
        obtain rfl := Option.some.inj h
        subst_vars
        first | exact hk | (simp only [ln_set] at hk ⊢; exact hk)
    · refine sat_brf (by first | exact hb1 | ((try clear h); subst_vars; first | exact hb1 | rfl)) ?_
      conv => arg 1; cbv
      refine sat_tick hΩ ?_
      conv => arg 1; cbv
      refine sat_tick hΩ ?_
      conv => arg 1; cbv
      refine sat_tick hΩ ?_
      conv => arg 1; cbv
      refine sat_tick hΩ ?_
      conv => arg 1; cbv
      obtain rfl := Option.some.inj h
      subst_vars
      first | exact hk | (simp only [ln_set] at hk ⊢; exact hk)
  · clear hq29
    obtain ⟨i11, hqq⟩ : ∃ x, x = q := ⟨_, rfl⟩
    subst hqq
    try dsimp only at h
    conv => arg 1; cbv
    refine sat_in hΩ ?_
    conv => arg 1; cbv
    replace h := bif_cases h
    rcases h with ⟨hb12, h⟩ | ⟨hb12, h⟩
    · refine sat_brt (by first | exact hb12 | ((try clear h); subst_vars; first | exact hb12 | rfl)) ?_
      conv => arg 1; cbv
      obtain rfl := Option.some.inj h
      subst_vars
      exact sat_pure rfl
    · refine sat_brf (by first | exact hb12 | ((try clear h); subst_vars; first | exact hb12 | rfl)) ?_
      conv => arg 1; cbv
      obtain ⟨q, hl24, hz⟩ := Option.bind_eq_some_iff.1 h
      clear h
      have h := hz
      clear hz
      refine sat_loop hΩ (fun (a : Int) => (match a with | i13 => ([(0, PV.agg [.d (.int .u8 a0_Kind), .d (.int .i64 a0_N), .d (.str a0_S), .d (.sl (E.L_Value a0_L_l) (E.X_Value a0_L_x)), .d (.sl (E.L_Field a0_F_l) (E.X_Field a0_F_x)), .d (.int .u8 a0_Elem), .d (.str a0_Key), .d (.bool a0_HasKey)]), (1, PV.agg [.d (.int .u8 a1_Kind), .d (.int .i64 a1_N), .d (.str a1_S), .d (.sl (E.L_Value a1_L_l) (E.X_Value a1_L_x)), .d (.sl (E.L_Field a1_F_l) (E.X_Field a1_F_x)), .d (.int .u8 a1_Elem), .d (.str a1_Key), .d (.bool a1_HasKey)]), (2, PV.ptr 0 0 0), (3, PV.ptr 0 1 0), (4, PV.d (.bool false)), (5, PV.d (.int .i64 i13))], ([X.Obj.box 27 [.d (.int .u8 a0_Kind), .d (.int .i64 a0_N), .d (.str a0_S), .d (.sl (E.L_Value a0_L_l) (E.X_Value a0_L_x)), .d (.sl (E.L_Field a0_F_l) (E.X_Field a0_F_x)), .d (.int .u8 a0_Elem), .d (.str a0_Key), .d (.bool a0_HasKey)], X.Obj.box 27 [.d (.int .u8 a1_Kind), .d (.int .i64 a1_N), .d (.str a1_S), .d (.sl (E.L_Value a1_L_l) (E.X_Value a1_L_x)), .d (.sl (E.L_Field a1_F_l) (E.X_Field a1_F_x)), .d (.int .u8 a1_Elem), .d (.str a1_Key), .d (.bool a1_HasKey)]] : List X.Obj) :: st))) (fun (q : Int ⊕ Int) => (match q with | .inl o25 => (.exit 0, [(0, PV.agg [.d (.int .u8 a0_Kind), .d (.int .i64 a0_N), .d (.str a0_S), .d (.sl (E.L_Value a0_L_l) (E.X_Value a0_L_x)), .d (.sl (E.L_Field a0_F_l) (E.X_Field a0_F_x)), .d (.int .u8 a0_Elem), .d (.str a0_Key), .d (.bool a0_HasKey)]), (1, PV.agg [.d (.int .u8 a1_Kind), .d (.int .i64 a1_N), .d (.str a1_S), .d (.sl (E.L_Value a1_L_l) (E.X_Value a1_L_x)), .d (.sl (E.L_Field a1_F_l) (E.X_Field a1_F_x)), .d (.int .u8 a1_Elem), .d (.str a1_Key), .d (.bool a1_HasKey)]), (2, PV.ptr 0 0 0), (3, PV.ptr 0 1 0), (4, PV.d (.bool false)), (5, PV.d (.int .i64 o25))], ([X.Obj.box 27 [.d (.int .u8 a0_Kind), .d (.int .i64 a0_N), .d (.str a0_S), .d (.sl (E.L_Value a0_L_l) (E.X_Value a0_L_x)), .d (.sl (E.L_Field a0_F_l) (E.X_Field a0_F_x)), .d (.int .u8 a0_Elem), .d (.str a0_Key), .d (.bool a0_HasKey)], X.Obj.box 27 [.d (.int .u8 a1_Kind), .d (.int .i64 a1_N), .d (.str a1_S), .d (.sl (E.L_Value a1_L_l) (E.X_Value a1_L_x)), .d (.sl (E.L_Field a1_F_l) (E.X_Field a1_F_x)), .d (.int .u8 a1_Elem), .d (.str a1_Key), .d (.bool a1_HasKey)]] : List X.Obj) :: st) | .inr o28 => (.ret, [(0, PV.agg [.d (.int .u8 a0_Kind), .d (.int .i64 a0_N), .d (.str a0_S), .d (.sl (E.L_Value a0_L_l) (E.X_Value a0_L_x)), .d (.sl (E.L_Field a0_F_l) (E.X_Field a0_F_x)), .d (.int .u8 a0_Elem), .d (.str a0_Key), .d (.bool a0_HasKey)]), (1, PV.agg [.d (.int .u8 a1_Kind), .d (.int .i64 a1_N), .d (.str a1_S), .d (.sl (E.L_Value a1_L_l) (E.X_Value a1_L_x)), .d (.sl (E.L_Field a1_F_l) (E.X_Field a1_F_x)), .d (.int .u8 a1_Elem), .d (.str a1_Key), .d (.bool a1_HasKey)]), (2, PV.ptr 0 0 0), (3, PV.ptr 0 1 0), (4, PV.d (.bool false)), (5, PV.d (.int .i64 o28))], ([X.Obj.box 27 [.d (.int .u8 a0_Kind), .d (.int .i64 a0_N), .d (.str a0_S), .d (.sl (E.L_Value a0_L_l) (E.X_Value a0_L_x)), .d (.sl (E.L_Field a0_F_l) (E.X_Field a0_F_x)), .d (.int .u8 a0_Elem), .d (.str a0_Key), .d (.bool a0_HasKey)], X.Obj.box 27 [.d (.int .u8 a1_Kind), .d (.int .i64 a1_N), .d (.str a1_S), .d (.sl (E.L_Value a1_L_l) (E.X_Value a1_L_x)), .d (.sl (E.L_Field a1_F_l) (E.X_Field a1_F_x)), .d (.int .u8 a1_Elem), .d (.str a1_Key), .d (.bool a1_HasKey)]] : List X.Obj) :: st))) 0 hl24 (by first | rfl | ((try clear h); subst_vars; rfl) | ((try clear h); subst_vars; simp only [ln_set])) ?_ ?_
      · clear h hl24
        rintro i13 q h
        unfold P33_s0 at h
        dsimp only at h
        conv => arg 1; cbv
        refine sat_len hΩ (ro_Value hE) a0_L_l (by first | rfl | ((try clear h); subst_vars; rfl)) fun n14 hn15 => ?_
        conv => arg 1; cbv
        refine sat_in hΩ ?_
        conv => arg 1; cbv
        replace h := bif_cases h
        rcases h with ⟨hb16, h⟩ | ⟨hb16, h⟩
        · refine sat_brt (by first | exact hb16 | ((try clear h); subst_vars; first | exact hb16 | rfl)) ?_
          conv => arg 1; cbv
          refine sat_true (fits_l hΩ (ro_Value hE) a0_L_l (by first | rfl | ((try clear h); subst_vars; rfl))) ?_
          conv => arg 1; cbv
          obtain ⟨⟨x17_Kind, x17_N, x17_S, ⟨x17_L_l, x17_L_x⟩, ⟨x17_F_l, x17_F_x⟩, x17_Elem, x17_Key, x17_HasKey⟩, hx18, hz⟩ := Option.bind_eq_some_iff.1 h
          clear h
          have h := hz
          clear hz
          try dsimp only at h
          refine sat_bind (nth_ok hΩ (ro_Value hE) hx18 (by first | rfl | ((try clear h); subst_vars; rfl)) (by first | rfl | ((try clear h); subst_vars; rfl))) ?_
          conv => arg 1; cbv
          refine sat_true (fits_l hΩ (ro_Value hE) a1_L_l (by first | rfl | ((try clear h); subst_vars; rfl))) ?_
          conv => arg 1; cbv
          obtain ⟨⟨x19_Kind, x19_N, x19_S, ⟨x19_L_l, x19_L_x⟩, ⟨x19_F_l, x19_F_x⟩, x19_Elem, x19_Key, x19_HasKey⟩, hx20, hz⟩ := Option.bind_eq_some_iff.1 h
          clear h
          have h := hz
          clear hz
          try dsimp only at h
          refine sat_bind (nth_ok hΩ (ro_Value hE) hx20 (by first | rfl | ((try clear h); subst_vars; rfl)) (by first | rfl | ((try clear h); subst_vars; rfl))) ?_
          conv => arg 1; cbv
          obtain ⟨r21, hx22, hz⟩ := Option.bind_eq_some_iff.1 h
          clear h
          have h := hz
          clear hz
          refine sat_call (hp33 hx22 (by (try clear h); subst_vars; rfl) _) ?_
          conv => arg 1; cbv
          refine sat_true (same_ok hΩ _) ?_
          conv => arg 1; cbv
          refine sat_in hΩ ?_
          conv => arg 1; cbv
          replace h := bif_cases h
          rcases h with ⟨hb23, h⟩ | ⟨hb23, h⟩
          · refine sat_brt (by first | exact hb23 | ((try clear h); subst_vars; first | exact hb23 | rfl)) ?_
            conv => arg 1; cbv
            obtain rfl := Option.some.inj h
            subst_vars
            first | exact sat_pure (.inr ⟨rfl, rfl⟩) | (refine sat_pure (.inr ⟨rfl, ?_⟩); dsimp only; simp only [ln_set]; rfl)
          · refine sat_brf (by first | exact hb23 | ((try clear h); subst_vars; first | exact hb23 | rfl)) ?_
            conv => arg 1; cbv
            obtain rfl := Option.some.inj h
            subst_vars
            first | exact sat_pure ⟨rfl, rfl, rfl⟩ | (refine sat_pure ⟨rfl, ?_, ?_⟩ <;> first | rfl | (dsimp only; simp only [ln_set]; rfl))
        · refine sat_brf (by first | exact hb16 | ((try clear h); subst_vars; first | exact hb16 | rfl)) ?_
          conv => arg 1; cbv
          obtain rfl := Option.some.inj h
          subst_vars
          first | exact sat_pure (.inl ⟨⟨_, rfl⟩, rfl⟩) | (refine sat_pure (.inl ⟨⟨_, rfl⟩, ?_⟩); dsimp only; simp only [ln_set]; rfl)
      · clear hl24
        rcases q with o25 | o28
        · dsimp only at h
          conv => arg 1; cbv
          obtain ⟨r26, hx27, hz⟩ := Option.bind_eq_some_iff.1 h
          clear h
          have h := hz
          clear hz
          refine sat_call (hp56 hx27 (by (try clear h); subst_vars; rfl) _) ?_
          conv => arg 1; cbv
          obtain rfl := Option.some.inj h
          subst_vars
          exact sat_pure rfl
        · dsimp only at h
          conv => arg 1; cbv
          obtain rfl := Option.some.inj h
          subst_vars
          exact sat_pure rfl
set_option maxHeartbeats 4000000 in
theorem okb56 {Ω : Om} {E : Enc} (hΩ : real (call S) = Ω) (hE : theEnc = E) {fu : Nat} {p33 : Value → Value → Option (Bool)} (hp33 : ∀ {a0 : Value} {a1 : Value} {r : Bool}, p33 a0 a1 = some r → ∀ {args : List PV}, [pv_Value E a0, pv_Value E a1] = args → ∀ (st : St), Sat (Ω.cf 33 args st) (fun q => q = (PV.d (.bool r), st))) {p56 : (Sl Field) → (Sl Field) → Option (Bool)} (hp56 : ∀ {a0 : Sl Field} {a1 : Sl Field} {r : Bool}, p56 a0 a1 = some r → ∀ {args : List PV}, [PV.d (.sl (E.L_Field a0.l) (E.X_Field a0.x)), PV.d (.sl (E.L_Field a1.l) (E.X_Field a1.x))] = args → ∀ (st : St), Sat (Ω.cf 56 args st) (fun q => q = (PV.d (.bool r), st))) {a0 : Sl Field} {a1 : Sl Field} {r : Bool} (h : Pb56 fu p33 p56 a0 a1 = some r) {args : List PV} (ha : [PV.d (.sl (E.L_Field a0.l) (E.X_Field a0.x)), PV.d (.sl (E.L_Field a1.l) (E.X_Field a1.x))] = args) (st : St) :
    Sat (Ω.cf 56 args st) (fun q => q = (PV.d (.bool r), st)) := by
  subst ha
  rcases a0 with ⟨a0_l, a0_x⟩
  rcases a1 with ⟨a1_l, a1_x⟩
  rw [cf_body hΩ (f := 56) (fn := Try.f56) (x := c56) rfl rfl c56_ok rfl rfl rfl]
  unfold Pb56 at h
  try dsimp only at h
  conv => arg 1; cbv
  refine sat_len hΩ (ro_Field hE) a0_l (by first | rfl | ((try clear h); subst_vars; rfl)) fun n1 hn2 => ?_
  conv => arg 1; cbv
  refine sat_len hΩ (ro_Field hE) a1_l (by first | rfl | ((try clear h); subst_vars; rfl)) fun n3 hn4 => ?_
  conv => arg 1; cbv
  refine sat_in hΩ ?_
  conv => arg 1; cbv
  replace h := bif_cases h
  rcases h with ⟨hb5, h⟩ | ⟨hb5, h⟩
  · refine sat_brt (by first | exact hb5 | ((try clear h); subst_vars; first | exact hb5 | rfl)) ?_
    conv => arg 1; cbv
    obtain rfl := Option.some.inj h
    subst_vars
    exact sat_pure rfl
  · refine sat_brf (by first | exact hb5 | ((try clear h); subst_vars; first | exact hb5 | rfl)) ?_
    conv => arg 1; cbv
    obtain ⟨q, hl24, hz⟩ := Option.bind_eq_some_iff.1 h
    clear h
    have h := hz
    clear hz
    refine sat_loop hΩ (fun (a : Int) => (match a with | i6 => ([(0, PV.d (.sl (E.L_Field a0_l) (E.X_Field a0_x))), (1, PV.d (.sl (E.L_Field a1_l) (E.X_Field a1_x))), (4, PV.d (.bool false)), (5, PV.d (.int .i64 i6))], ([] : List X.Obj) :: st))) (fun (q : Int ⊕ Int) => (match q with | .inl o25 => (.exit 0, [(0, PV.d (.sl (E.L_Field a0_l) (E.X_Field a0_x))), (1, PV.d (.sl (E.L_Field a1_l) (E.X_Field a1_x))), (4, PV.d (.bool false)), (5, PV.d (.int .i64 o25))], ([] : List X.Obj) :: st) | .inr o26 => (.ret, [(0, PV.d (.sl (E.L_Field a0_l) (E.X_Field a0_x))), (1, PV.d (.sl (E.L_Field a1_l) (E.X_Field a1_x))), (4, PV.d (.bool false)), (5, PV.d (.int .i64 o26))], ([] : List X.Obj) :: st))) 0 hl24 (by first | rfl | ((try clear h); subst_vars; rfl) | ((try clear h); subst_vars; simp only [ln_set])) ?_ ?_
    · clear h hl24
      rintro i6 q h
      unfold P56_s0 at h
      dsimp only at h
      conv => arg 1; cbv
      refine sat_len hΩ (ro_Field hE) a0_l (by first | rfl | ((try clear h); subst_vars; rfl)) fun n7 hn8 => ?_
      conv => arg 1; cbv
      refine sat_in hΩ ?_
      conv => arg 1; cbv
      replace h := bif_cases h
      rcases h with ⟨hb9, h⟩ | ⟨hb9, h⟩
      · refine sat_brt (by first | exact hb9 | ((try clear h); subst_vars; first | exact hb9 | rfl)) ?_
        conv => arg 1; cbv
        obtain ⟨q, hq23, hz⟩ := Option.bind_eq_some_iff.1 h
        clear h
        have h := hz
        clear hz
        refine sat_grp hΩ ((fun (q : Bool) => (match q with | i21 => ([(0, PV.d (.sl (E.L_Field a0_l) (E.X_Field a0_x))), (1, PV.d (.sl (E.L_Field a1_l) (E.X_Field a1_x))), (4, PV.d (.bool false)), (5, PV.d (.int .i64 i6)), (41, PV.d (.bool i21))], ([] : List X.Obj) :: st))) q) (fun k hk => ?_) ?_
        · clear h
          have h := hq23
          clear hq23
          conv => arg 1; cbv
          refine sat_true (fits_l hΩ (ro_Field hE) a0_l (by first | rfl | ((try clear h); subst_vars; rfl))) ?_
          conv => arg 1; cbv
          obtain ⟨⟨x10_Name, ⟨x10_Value__Kind, x10_Value__N, x10_Value__S, ⟨x10_Value__L_l, x10_Value__L_x⟩, ⟨x10_Value__F_l, x10_Value__F_x⟩, x10_Value__Elem, x10_Value__Key, x10_Value__HasKey⟩⟩, hx11, hz⟩ := Option.bind_eq_some_iff.1 h
          clear h
          have h := hz
          clear hz
          try dsimp only at h
          refine sat_bind (nth_ok hΩ (ro_Field hE) hx11 (by first | rfl | ((try clear h); subst_vars; rfl)) (by first | rfl | ((try clear h); subst_vars; rfl))) ?_
          conv => arg 1; cbv
          refine sat_true (fits_l hΩ (ro_Field hE) a1_l (by first | rfl | ((try clear h); subst_vars; rfl))) ?_
          conv => arg 1; cbv
          obtain ⟨⟨x12_Name, ⟨x12_Value__Kind, x12_Value__N, x12_Value__S, ⟨x12_Value__L_l, x12_Value__L_x⟩, ⟨x12_Value__F_l, x12_Value__F_x⟩, x12_Value__Elem, x12_Value__Key, x12_Value__HasKey⟩⟩, hx13, hz⟩ := Option.bind_eq_some_iff.1 h
          clear h
          have h := hz
          clear hz
          try dsimp only at h
          refine sat_bind (nth_ok hΩ (ro_Field hE) hx13 (by first | rfl | ((try clear h); subst_vars; rfl)) (by first | rfl | ((try clear h); subst_vars; rfl))) ?_
          conv => arg 1; cbv
          refine sat_tick hΩ ?_
          conv => arg 1; cbv
          replace h := bif_cases h
          rcases h with ⟨hb14, h⟩ | ⟨hb14, h⟩
          · refine sat_brt (by first | exact hb14 | ((try clear h); subst_vars; first | exact hb14 | rfl)) ?_
            conv => arg 1; cbv
            refine sat_true (fits_l hΩ (ro_Field hE) a0_l (by first | rfl | ((try clear h); subst_vars; rfl))) ?_
            conv => arg 1; cbv
            obtain ⟨⟨x15_Name, ⟨x15_Value__Kind, x15_Value__N, x15_Value__S, ⟨x15_Value__L_l, x15_Value__L_x⟩, ⟨x15_Value__F_l, x15_Value__F_x⟩, x15_Value__Elem, x15_Value__Key, x15_Value__HasKey⟩⟩, hx16, hz⟩ := Option.bind_eq_some_iff.1 h
            clear h
            have h := hz
            clear hz
            try dsimp only at h
            refine sat_bind (nth_ok hΩ (ro_Field hE) hx16 (by first | rfl | ((try clear h); subst_vars; rfl)) (by first | rfl | ((try clear h); subst_vars; rfl))) ?_
            conv => arg 1; cbv
            refine sat_true (fits_l hΩ (ro_Field hE) a1_l (by first | rfl | ((try clear h); subst_vars; rfl))) ?_
            conv => arg 1; cbv
            obtain ⟨⟨x17_Name, ⟨x17_Value__Kind, x17_Value__N, x17_Value__S, ⟨x17_Value__L_l, x17_Value__L_x⟩, ⟨x17_Value__F_l, x17_Value__F_x⟩, x17_Value__Elem, x17_Value__Key, x17_Value__HasKey⟩⟩, hx18, hz⟩ := Option.bind_eq_some_iff.1 h
            clear h
            have h := hz
            clear hz
            try dsimp only at h
            refine sat_bind (nth_ok hΩ (ro_Field hE) hx18 (by first | rfl | ((try clear h); subst_vars; rfl)) (by first | rfl | ((try clear h); subst_vars; rfl))) ?_
            conv => arg 1; cbv
            obtain ⟨r19, hx20, hz⟩ := Option.bind_eq_some_iff.1 h
            clear h
            have h := hz
            clear hz
            refine sat_call (hp33 hx20 (by (try clear h); subst_vars; rfl) _) ?_
            conv => arg 1; cbv
            refine sat_true (same_ok hΩ _) ?_
            conv => arg 1; cbv
            refine sat_tick hΩ ?_
            conv => arg 1; cbv
            obtain rfl := Option.some.inj h
            subst_vars
            first | exact hk | (simp only [ln_set] at hk ⊢; exact hk)
          · refine sat_brf (by first | exact hb14 | ((try clear h); subst_vars; first | exact hb14 | rfl)) ?_
            conv => arg 1; cbv
            refine sat_tick hΩ ?_
            conv => arg 1; cbv
            obtain rfl := Option.some.inj h
            subst_vars
            first | exact hk | (simp only [ln_set] at hk ⊢; exact hk)
        · clear hq23
          obtain ⟨i21, hqq⟩ : ∃ x, x = q := ⟨_, rfl⟩
          subst hqq
          try dsimp only at h
          conv => arg 1; cbv
          refine sat_in hΩ ?_
          conv => arg 1; cbv
          replace h := bif_cases h
          rcases h with ⟨hb22, h⟩ | ⟨hb22, h⟩
          · refine sat_brt (by first | exact hb22 | ((try clear h); subst_vars; first | exact hb22 | rfl)) ?_
            conv => arg 1; cbv
            obtain rfl := Option.some.inj h
            subst_vars
            first | exact sat_pure (.inr ⟨rfl, rfl⟩) | (refine sat_pure (.inr ⟨rfl, ?_⟩); dsimp only; simp only [ln_set]; rfl)
          · refine sat_brf (by first | exact hb22 | ((try clear h); subst_vars; first | exact hb22 | rfl)) ?_
            conv => arg 1; cbv
            obtain rfl := Option.some.inj h
            subst_vars
            first | exact sat_pure ⟨rfl, rfl, rfl⟩ | (refine sat_pure ⟨rfl, ?_, ?_⟩ <;> first | rfl | (dsimp only; simp only [ln_set]; rfl))
      · refine sat_brf (by first | exact hb9 | ((try clear h); subst_vars; first | exact hb9 | rfl)) ?_
        conv => arg 1; cbv
        obtain rfl := Option.some.inj h
        subst_vars
        first | exact sat_pure (.inl ⟨⟨_, rfl⟩, rfl⟩) | (refine sat_pure (.inl ⟨⟨_, rfl⟩, ?_⟩); dsimp only; simp only [ln_set]; rfl)
    · clear hl24
      rcases q with o25 | o26
      · dsimp only at h
        conv => arg 1; cbv
        obtain rfl := Option.some.inj h
        subst_vars
        exact sat_pure rfl
      · dsimp only at h
        conv => arg 1; cbv
        obtain rfl := Option.some.inj h
        subst_vars
        exact sat_pure rfl
theorem okr33 {Ω : Om} {E : Enc} (hΩ : real (call S) = Ω) (hE : theEnc = E) : ∀ fu,
    (∀ {a0 : Value} {a1 : Value} {r : Bool}, P33 fu a0 a1 = some r → ∀ {args : List PV}, [pv_Value E a0, pv_Value E a1] = args → ∀ (st : St), Sat (Ω.cf 33 args st) (fun q => q = (PV.d (.bool r), st))) ∧
    (∀ {a0 : Sl Field} {a1 : Sl Field} {r : Bool}, P56 fu a0 a1 = some r → ∀ {args : List PV}, [PV.d (.sl (E.L_Field a0.l) (E.X_Field a0.x)), PV.d (.sl (E.L_Field a1.l) (E.X_Field a1.x))] = args → ∀ (st : St), Sat (Ω.cf 56 args st) (fun q => q = (PV.d (.bool r), st))) := by
  intro fu
  induction fu with
  | zero => exact ⟨(fun h => (by cases h)), (fun h => (by cases h))⟩
  | succ fu ih =>
    obtain ⟨i33, i56⟩ := ih
    exact ⟨(fun h => @fun args ha st => okb33 (fu := fu) hΩ hE i33 i56 h ha st), (fun h => @fun args ha st => okb56 (fu := fu) hΩ hE i33 i56 h ha st)⟩
theorem ok33 {Ω : Om} {E : Enc} (hΩ : real (call S) = Ω) (hE : theEnc = E) {fu : Nat} : ∀ {a0 : Value} {a1 : Value} {r : Bool}, P33 fu a0 a1 = some r → ∀ {args : List PV}, [pv_Value E a0, pv_Value E a1] = args → ∀ (st : St), Sat (Ω.cf 33 args st) (fun q => q = (PV.d (.bool r), st)) := (okr33 hΩ hE fu).1
theorem ok56 {Ω : Om} {E : Enc} (hΩ : real (call S) = Ω) (hE : theEnc = E) {fu : Nat} : ∀ {a0 : Sl Field} {a1 : Sl Field} {r : Bool}, P56 fu a0 a1 = some r → ∀ {args : List PV}, [PV.d (.sl (E.L_Field a0.l) (E.X_Field a0.x)), PV.d (.sl (E.L_Field a1.l) (E.X_Field a1.x))] = args → ∀ (st : St), Sat (Ω.cf 56 args st) (fun q => q = (PV.d (.bool r), st)) := (okr33 hΩ hE fu).2
set_option maxHeartbeats 4000000 in
theorem ok12 {Ω : Om} {E : Enc} (hΩ : real (call S) = Ω) (hE : theEnc = E) {fu : Nat} {a0 : Sl Cell} {a1 : Sl Field} {r : Bool} (h : P12 fu a0 a1 = some r) {args : List PV} (ha : [PV.d (.sl (E.L_Cell a0.l) (E.X_Cell a0.x)), PV.d (.sl (E.L_Field a1.l) (E.X_Field a1.x))] = args) (st : St) :
    Sat (Ω.cf 12 args st) (fun q => q = (PV.d (.bool r), st)) := by
  subst ha
  rcases a0 with ⟨a0_l, a0_x⟩
  rcases a1 with ⟨a1_l, a1_x⟩
  rw [cf_body hΩ (f := 12) (fn := Try.f12) (x := c12) rfl rfl c12_ok rfl rfl rfl]
  unfold P12 at h
  try dsimp only at h
  conv => arg 1; cbv
  obtain ⟨q, hl20, hz⟩ := Option.bind_eq_some_iff.1 h
  clear h
  have h := hz
  clear hz
  refine sat_loop hΩ (fun (a : Bool × Int) => (match a with | (i1, i2) => ([(0, PV.d (.sl (E.L_Cell a0_l) (E.X_Cell a0_x))), (1, PV.d (.sl (E.L_Field a1_l) (E.X_Field a1_x))), (4, PV.d (.bool i1)), (5, PV.d (.int .i64 i2))], ([] : List X.Obj) :: st))) (fun (q : (Bool × Int) ⊕ (Bool × Int)) => (match q with | .inl (o21, o22) => (.exit 0, [(0, PV.d (.sl (E.L_Cell a0_l) (E.X_Cell a0_x))), (1, PV.d (.sl (E.L_Field a1_l) (E.X_Field a1_x))), (4, PV.d (.bool o21)), (5, PV.d (.int .i64 o22))], ([] : List X.Obj) :: st) | .inr (o23, o24) => (.ret, [(0, PV.d (.sl (E.L_Cell a0_l) (E.X_Cell a0_x))), (1, PV.d (.sl (E.L_Field a1_l) (E.X_Field a1_x))), (4, PV.d (.bool o23)), (5, PV.d (.int .i64 o24))], ([] : List X.Obj) :: st))) (false, 0) hl20 (by first | rfl | ((try clear h); subst_vars; rfl) | ((try clear h); subst_vars; simp only [ln_set])) ?_ ?_
  · clear h hl20
    rintro ⟨i1, i2⟩ q h
    unfold P12_s0 at h
    dsimp only at h
    conv => arg 1; cbv
    refine sat_len hΩ (ro_Cell hE) a0_l (by first | rfl | ((try clear h); subst_vars; rfl)) fun n3 hn4 => ?_
    conv => arg 1; cbv
    refine sat_in hΩ ?_
    conv => arg 1; cbv
    replace h := bif_cases h
    rcases h with ⟨hb5, h⟩ | ⟨hb5, h⟩
    · refine sat_brt (by first | exact hb5 | ((try clear h); subst_vars; first | exact hb5 | rfl)) ?_
      conv => arg 1; cbv
      obtain ⟨q, hq19, hz⟩ := Option.bind_eq_some_iff.1 h
      clear h
      have h := hz
      clear hz
      refine sat_grp hΩ ((fun (q : Bool) => (match q with | i17 => ([(0, PV.d (.sl (E.L_Cell a0_l) (E.X_Cell a0_x))), (1, PV.d (.sl (E.L_Field a1_l) (E.X_Field a1_x))), (4, PV.d (.bool i1)), (5, PV.d (.int .i64 i2)), (33, PV.d (.bool i17))], ([] : List X.Obj) :: st))) q) (fun k hk => ?_) ?_
      · clear h
        have h := hq19
        clear hq19
        conv => arg 1; cbv
        refine sat_true (fits_l hΩ (ro_Cell hE) a0_l (by first | rfl | ((try clear h); subst_vars; rfl))) ?_
        conv => arg 1; cbv
        obtain ⟨⟨x6_Kind, x6_Name, ⟨x6_Value__Kind, x6_Value__N, x6_Value__S, ⟨x6_Value__L_l, x6_Value__L_x⟩, ⟨x6_Value__F_l, x6_Value__F_x⟩, x6_Value__Elem, x6_Value__Key, x6_Value__HasKey⟩, ⟨x6_Next_Kind, x6_Next_N, x6_Next_S, ⟨x6_Next_L_l, x6_Next_L_x⟩, ⟨x6_Next_F_l, x6_Next_F_x⟩, x6_Next_Elem, x6_Next_Key, x6_Next_HasKey⟩, ⟨x6_Deps_l, x6_Deps_x⟩, ⟨x6_Do_l, x6_Do_x⟩, ⟨x6_Undo_l, x6_Undo_x⟩, ⟨x6_Env_l, x6_Env_x⟩, x6_Runs, x6_Ran, ⟨x6_Old_l, x6_Old_x⟩, ⟨x6_Past_l, x6_Past_x⟩⟩, hx7, hz⟩ := Option.bind_eq_some_iff.1 h
        clear h
        have h := hz
        clear hz
        try dsimp only at h
        refine sat_bind (nth_ok hΩ (ro_Cell hE) hx7 (by first | rfl | ((try clear h); subst_vars; rfl)) (by first | rfl | ((try clear h); subst_vars; rfl))) ?_
        conv => arg 1; cbv
        replace h := bif_cases h
        rcases h with ⟨hb8, h⟩ | ⟨hb8, h⟩
        · refine sat_brt (by first | exact hb8 | ((try clear h); subst_vars; first | exact hb8 | rfl)) ?_
          conv => arg 1; cbv
          refine sat_true (fits_l hΩ (ro_Cell hE) a0_l (by first | rfl | ((try clear h); subst_vars; rfl))) ?_
          conv => arg 1; cbv
          obtain ⟨⟨x9_Kind, x9_Name, ⟨x9_Value__Kind, x9_Value__N, x9_Value__S, ⟨x9_Value__L_l, x9_Value__L_x⟩, ⟨x9_Value__F_l, x9_Value__F_x⟩, x9_Value__Elem, x9_Value__Key, x9_Value__HasKey⟩, ⟨x9_Next_Kind, x9_Next_N, x9_Next_S, ⟨x9_Next_L_l, x9_Next_L_x⟩, ⟨x9_Next_F_l, x9_Next_F_x⟩, x9_Next_Elem, x9_Next_Key, x9_Next_HasKey⟩, ⟨x9_Deps_l, x9_Deps_x⟩, ⟨x9_Do_l, x9_Do_x⟩, ⟨x9_Undo_l, x9_Undo_x⟩, ⟨x9_Env_l, x9_Env_x⟩, x9_Runs, x9_Ran, ⟨x9_Old_l, x9_Old_x⟩, ⟨x9_Past_l, x9_Past_x⟩⟩, hx10, hz⟩ := Option.bind_eq_some_iff.1 h
          clear h
          have h := hz
          clear hz
          try dsimp only at h
          refine sat_bind (nth_ok hΩ (ro_Cell hE) hx10 (by first | rfl | ((try clear h); subst_vars; rfl)) (by first | rfl | ((try clear h); subst_vars; rfl))) ?_
          conv => arg 1; cbv
          refine sat_tick hΩ ?_
          conv => arg 1; cbv
          refine sat_true (fits_l hΩ (ro_Cell hE) a0_l (by first | rfl | ((try clear h); subst_vars; rfl))) ?_
          conv => arg 1; cbv
          obtain ⟨⟨x11_Kind, x11_Name, ⟨x11_Value__Kind, x11_Value__N, x11_Value__S, ⟨x11_Value__L_l, x11_Value__L_x⟩, ⟨x11_Value__F_l, x11_Value__F_x⟩, x11_Value__Elem, x11_Value__Key, x11_Value__HasKey⟩, ⟨x11_Next_Kind, x11_Next_N, x11_Next_S, ⟨x11_Next_L_l, x11_Next_L_x⟩, ⟨x11_Next_F_l, x11_Next_F_x⟩, x11_Next_Elem, x11_Next_Key, x11_Next_HasKey⟩, ⟨x11_Deps_l, x11_Deps_x⟩, ⟨x11_Do_l, x11_Do_x⟩, ⟨x11_Undo_l, x11_Undo_x⟩, ⟨x11_Env_l, x11_Env_x⟩, x11_Runs, x11_Ran, ⟨x11_Old_l, x11_Old_x⟩, ⟨x11_Past_l, x11_Past_x⟩⟩, hx12, hz⟩ := Option.bind_eq_some_iff.1 h
          clear h
          have h := hz
          clear hz
          try dsimp only at h
          refine sat_bind (nth_ok hΩ (ro_Cell hE) hx12 (by first | rfl | ((try clear h); subst_vars; rfl)) (by first | rfl | ((try clear h); subst_vars; rfl))) ?_
          conv => arg 1; cbv
          obtain ⟨⟨r13_Kind, r13_N, r13_S, ⟨r13_L_l, r13_L_x⟩, ⟨r13_F_l, r13_F_x⟩, r13_Elem, r13_Key, r13_HasKey⟩, hx14, hz⟩ := Option.bind_eq_some_iff.1 h
          clear h
          have h := hz
          clear hz
          try dsimp only at h
          refine sat_call (ok34 hΩ hE hx14 (by (try clear h); subst_vars; rfl) _) ?_
          conv => arg 1; cbv
          refine sat_true (same_ok hΩ _) ?_
          conv => arg 1; cbv
          obtain ⟨r15, hx16, hz⟩ := Option.bind_eq_some_iff.1 h
          clear h
          have h := hz
          clear hz
          refine sat_call (ok33 hΩ hE hx16 (by (try clear h); subst_vars; rfl) _) ?_
          conv => arg 1; cbv
          refine sat_true (same_ok hΩ _) ?_
          conv => arg 1; cbv
          obtain rfl := Option.some.inj h
          subst_vars
          first | exact hk | (simp only [ln_set] at hk ⊢; exact hk)
        · refine sat_brf (by first | exact hb8 | ((try clear h); subst_vars; first | exact hb8 | rfl)) ?_
          conv => arg 1; cbv
          refine sat_tick hΩ ?_
          conv => arg 1; cbv
          obtain rfl := Option.some.inj h
          subst_vars
          first | exact hk | (simp only [ln_set] at hk ⊢; exact hk)
      · clear hq19
        obtain ⟨i17, hqq⟩ : ∃ x, x = q := ⟨_, rfl⟩
        subst hqq
        try dsimp only at h
        conv => arg 1; cbv
        refine sat_in hΩ ?_
        conv => arg 1; cbv
        replace h := bif_cases h
        rcases h with ⟨hb18, h⟩ | ⟨hb18, h⟩
        · refine sat_brt (by first | exact hb18 | ((try clear h); subst_vars; first | exact hb18 | rfl)) ?_
          conv => arg 1; cbv
          obtain rfl := Option.some.inj h
          subst_vars
          first | exact sat_pure (.inr ⟨rfl, rfl⟩) | (refine sat_pure (.inr ⟨rfl, ?_⟩); dsimp only; simp only [ln_set]; rfl)
        · refine sat_brf (by first | exact hb18 | ((try clear h); subst_vars; first | exact hb18 | rfl)) ?_
          conv => arg 1; cbv
          obtain rfl := Option.some.inj h
          subst_vars
          first | exact sat_pure ⟨rfl, rfl, rfl⟩ | (refine sat_pure ⟨rfl, ?_, ?_⟩ <;> first | rfl | (dsimp only; simp only [ln_set]; rfl))
    · refine sat_brf (by first | exact hb5 | ((try clear h); subst_vars; first | exact hb5 | rfl)) ?_
      conv => arg 1; cbv
      obtain rfl := Option.some.inj h
      subst_vars
      first | exact sat_pure (.inl ⟨⟨_, rfl⟩, rfl⟩) | (refine sat_pure (.inl ⟨⟨_, rfl⟩, ?_⟩); dsimp only; simp only [ln_set]; rfl)
  · clear hl20
    rcases q with ⟨o21, o22⟩ | ⟨o23, o24⟩
    · dsimp only at h
      conv => arg 1; cbv
      obtain rfl := Option.some.inj h
      subst_vars
      exact sat_pure rfl
    · dsimp only at h
      conv => arg 1; cbv
      obtain rfl := Option.some.inj h
      subst_vars
      exact sat_pure rfl
theorem ok10 {Ω : Om} {E : Enc} (hΩ : real (call S) = Ω) (hE : theEnc = E) {fu : Nat} {r : Bool} (h : P10 fu = some r) {args : List PV} (ha : [] = args) (st : St) :
    Sat (Ω.cf 10 args st) (fun q => q = (PV.d (.bool r), st)) := by
  subst ha
  subst hΩ
  obtain rfl := Option.some.inj h
  exact ⟨_, closed_call (S := S) (f := 10) rfl st, rfl⟩
set_option maxHeartbeats 4000000 in
theorem ok4 {Ω : Om} {E : Enc} (hΩ : real (call S) = Ω) (hE : theEnc = E) {fu : Nat} {a0 : Sl Cell} {a1 : Sl Field} {r : Bool} (h : P4 fu a0 a1 = some r) {args : List PV} (ha : [PV.d (.sl (E.L_Cell a0.l) (E.X_Cell a0.x)), PV.d (.sl (E.L_Field a1.l) (E.X_Field a1.x))] = args) (st : St) :
    Sat (Ω.cf 4 args st) (fun q => q = (PV.d (.bool r), st)) := by
  subst ha
  rcases a0 with ⟨a0_l, a0_x⟩
  rcases a1 with ⟨a1_l, a1_x⟩
  rw [cf_body hΩ (f := 4) (fn := Try.f4) (x := c4) rfl rfl c4_ok rfl rfl rfl]
  unfold P4 at h
  try dsimp only at h
  conv => arg 1; cbv
  obtain ⟨q, hq9, hz⟩ := Option.bind_eq_some_iff.1 h
  clear h
  have h := hz
  clear hz
  refine sat_grp hΩ ((fun (q : Bool) => (match q with | i8 => ([(0, PV.d (.sl (E.L_Cell a0_l) (E.X_Cell a0_x))), (1, PV.d (.sl (E.L_Field a1_l) (E.X_Field a1_x))), (4, PV.d (.bool i8))], ([] : List X.Obj) :: st))) q) (fun k hk => ?_) ?_
  · clear h
    have h := hq9
    clear hq9
    conv => arg 1; cbv
    obtain ⟨r1, hx2, hz⟩ := Option.bind_eq_some_iff.1 h
    clear h
    have h := hz
    clear hz
    refine sat_call (ok11 hΩ hE hx2 (by (try clear h); subst_vars; rfl) _) ?_
    conv => arg 1; cbv
    obtain ⟨r3, hx4, hz⟩ := Option.bind_eq_some_iff.1 h
    clear h
    have h := hz
    clear hz
    refine sat_call (ok12 hΩ hE hx4 (by (try clear h); subst_vars; rfl) _) ?_
    conv => arg 1; cbv
    replace h := bif_cases h
    rcases h with ⟨hb5, h⟩ | ⟨hb5, h⟩
    · refine sat_brt (by first | exact hb5 | ((try clear h); subst_vars; first | exact hb5 | rfl)) ?_
      conv => arg 1; cbv
      obtain ⟨r6, hx7, hz⟩ := Option.bind_eq_some_iff.1 h
      clear h
      have h := hz
      clear hz
      refine sat_call (ok10 hΩ hE hx7 (by (try clear h); subst_vars; rfl) _) ?_
      conv => arg 1; cbv
      obtain rfl := Option.some.inj h
      subst_vars
      first | exact hk | (simp only [ln_set] at hk ⊢; exact hk)
    · refine sat_brf (by first | exact hb5 | ((try clear h); subst_vars; first | exact hb5 | rfl)) ?_
      conv => arg 1; cbv
      obtain rfl := Option.some.inj h
      subst_vars
      first | exact hk | (simp only [ln_set] at hk ⊢; exact hk)
  · clear hq9
    obtain ⟨i8, hqq⟩ : ∃ x, x = q := ⟨_, rfl⟩
    subst hqq
    try dsimp only at h
    conv => arg 1; cbv
    obtain rfl := Option.some.inj h
    subst_vars
    exact sat_pure rfl
end Go.Proofs.Ytipkggkbldgmjaa
