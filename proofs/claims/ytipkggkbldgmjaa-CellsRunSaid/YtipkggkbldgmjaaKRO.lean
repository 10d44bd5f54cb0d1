/- The interpreter computes just these functions: printed by a small program. -/
import Derived.Test.YtipkggkbldgmjaaKRD
namespace Go.Proofs.Ytipkggkbldgmjaa
open Go Go.X
set_option linter.unusedVariables false
set_option linter.unusedSimpArgs false
set_option maxRecDepth 100000
set_option maxHeartbeats 4000000 in
theorem okb13 {Ω : Om} {E : Enc} (hΩ : real (call S) = Ω) (hE : theEnc = E) {fu : Nat} {p13 : (Sl Value) → Option ((Sl Value))} (hp13 : ∀ {a0 : Sl Value} {r : (Sl Value)}, p13 a0 = some r → ∀ {args : List PV}, [PV.d (.sl (E.L_Value a0.l) (E.X_Value a0.x))] = args → ∀ (st : St), Sat (Ω.cf 13 args st) (fun q => q = (PV.d (.sl (E.L_Value r.l) (E.X_Value r.x)), st))) {p35 : Value → Option (Value)} (hp35 : ∀ {a0 : Value} {r : Value}, p35 a0 = some r → ∀ {args : List PV}, [pv_Value E a0] = args → ∀ (st : St), Sat (Ω.cf 35 args st) (fun q => q = (pv_Value E r, st))) {p57 : (Sl Field) → Option ((Sl Field))} (hp57 : ∀ {a0 : Sl Field} {r : (Sl Field)}, p57 a0 = some r → ∀ {args : List PV}, [PV.d (.sl (E.L_Field a0.l) (E.X_Field a0.x))] = args → ∀ (st : St), Sat (Ω.cf 57 args st) (fun q => q = (PV.d (.sl (E.L_Field r.l) (E.X_Field r.x)), st))) {p74 : Field → Option (Field)} (hp74 : ∀ {a0 : Field} {r : Field}, p74 a0 = some r → ∀ {args : List PV}, [pv_Field E a0] = args → ∀ (st : St), Sat (Ω.cf 74 args st) (fun q => q = (pv_Field E r, st))) {a0 : Sl Value} {r : (Sl Value)} (h : Pb13 fu p13 p35 p57 p74 a0 = some r) {args : List PV} (ha : [PV.d (.sl (E.L_Value a0.l) (E.X_Value a0.x))] = args) (st : St) :
    Sat (Ω.cf 13 args st) (fun q => q = (PV.d (.sl (E.L_Value r.l) (E.X_Value r.x)), st)) := by
  subst ha
  rcases a0 with ⟨a0_l, a0_x⟩
  rw [cf_body hΩ (f := 13) (fn := Try.f13) (x := c13) rfl rfl c13_ok rfl rfl]
  unfold Pb13 at h
  try dsimp only at h
  conv => arg 1; cbv
  refine sat_len hΩ (ro_Value hE) a0_l (by first | rfl | ((try clear h); subst_vars; rfl)) fun n1 hn2 => ?_
  conv => arg 1; cbv
  replace h := bif_some h
  obtain ⟨hb7, h⟩ := h
  refine sat_true (by first | exact hb7 | ((try clear h); subst_vars; first | exact hb7 | rfl)) ?_
  conv => arg 1; cbv
  replace h := bif_some h
  obtain ⟨hb8, h⟩ := h
  refine sat_true (by first | exact hb8 | ((try clear h); subst_vars; first | exact hb8 | rfl)) ?_
  conv => arg 1; cbv
  replace h := bif_some h
  obtain ⟨hb9, h⟩ := h
  refine sat_true (by first | exact hb9 | ((try clear h); subst_vars; first | exact hb9 | rfl)) ?_
  conv => arg 1; cbv
  refine sat_fill hΩ (ro_Value hE) (Value.mk 0 0 ByteArray.empty (Sl.mk [] (some [])) (Sl.mk [] (some [])) 0 ByteArray.empty false) 0 (by first | rfl | ((try clear h); subst_vars; rfl)) (by first | rfl | ((try clear h); subst_vars; rfl)) fun l3 hl4 n5 hn6 => ?_
  conv => arg 1; cbv
  obtain ⟨q, hl25, hz⟩ := Option.bind_eq_some_iff.1 h
  clear h
  have h := hz
  clear hz
  refine sat_loop hΩ (fun (a : (List Value) × Int) => (match a with | (l10, i11) => ([(0, PV.d (.sl (E.L_Value a0_l) (E.X_Value a0_x))), (2, PV.d (.sl [] (some []))), (3, PV.row 0 0 (ln l10)), (4, PV.d (.int .i64 i11))], ([X.Obj.row 27 8 (E.L_Value l10) false (some (Ω.wrap .i64 (Ω.add n1 1)))] : List X.Obj) :: st))) (fun (q : ((List Value) × Int)) => (match q with | (o26, o27) => (.exit 0, [(0, PV.d (.sl (E.L_Value a0_l) (E.X_Value a0_x))), (2, PV.d (.sl [] (some []))), (3, PV.row 0 0 (ln o26)), (4, PV.d (.int .i64 o27))], ([X.Obj.row 27 8 (E.L_Value o26) false (some (Ω.wrap .i64 (Ω.add n1 1)))] : List X.Obj) :: st))) ((List.replicate (Int.toNat 0) (Value.mk 0 0 ByteArray.empty (Sl.mk [] (some [])) (Sl.mk [] (some [])) 0 ByteArray.empty false)), 0) hl25 (by first | rfl | ((try clear h); subst_vars; rfl) | ((try clear h); subst_vars; simp only [ln_set])) ?_ ?_
  · clear h hl25
    rintro ⟨l10, i11⟩ q h
    unfold P13_s0 at h
    dsimp only at h
    obtain ⟨ln_l10, hln_l10⟩ : ∃ n, ln l10 = n := ⟨_, rfl⟩
    simp only [hln_l10]
    conv => arg 1; cbv
    refine sat_len hΩ (ro_Value hE) a0_l (by first | rfl | ((try clear h); subst_vars; rfl)) fun n12 hn13 => ?_
    conv => arg 1; cbv
    refine sat_in hΩ ?_
    conv => arg 1; cbv
    replace h := bif_cases h
    rcases h with ⟨hb14, h⟩ | ⟨hb14, h⟩
    · refine sat_brt (by first | exact hb14 | ((try clear h); subst_vars; first | exact hb14 | rfl)) ?_
      conv => arg 1; cbv
      refine sat_in hΩ ?_
      conv => arg 1; cbv
      refine sat_true (fits_l hΩ (ro_Value hE) a0_l (by first | rfl | ((try clear h); subst_vars; rfl))) ?_
      conv => arg 1; cbv
      obtain ⟨⟨x15_Kind, x15_N, x15_S, ⟨x15_L_l, x15_L_x⟩, ⟨x15_F_l, x15_F_x⟩, x15_Elem, x15_Key, x15_HasKey⟩, hx16, hz⟩ := Option.bind_eq_some_iff.1 h
      clear h
      have h := hz
      clear hz
      try dsimp only at h
      refine sat_bind (nth_ok hΩ (ro_Value hE) hx16 (by first | rfl | ((try clear h); subst_vars; rfl)) (by first | rfl | ((try clear h); subst_vars; rfl))) ?_
      conv => arg 1; cbv
      obtain ⟨⟨r17_Kind, r17_N, r17_S, ⟨r17_L_l, r17_L_x⟩, ⟨r17_F_l, r17_F_x⟩, r17_Elem, r17_Key, r17_HasKey⟩, hx18, hz⟩ := Option.bind_eq_some_iff.1 h
      clear h
      have h := hz
      clear hz
      try dsimp only at h
      refine sat_call (hp35 hx18 (by (try clear h); subst_vars; rfl) _) ?_
      conv => arg 1; cbv
      refine sat_true (ieq_ok hΩ _) ?_
      conv => arg 1; cbv
      refine sat_true (fits_l hΩ (ro_Value hE) [(Value.mk r17_Kind r17_N r17_S (Sl.mk r17_L_l r17_L_x) (Sl.mk r17_F_l r17_F_x) r17_Elem r17_Key r17_HasKey)] (by first | rfl | ((try clear h); subst_vars; rfl))) ?_
      conv => arg 1; cbv
      refine sat_true (len_ok hΩ (ro_Value hE) l10 (by first | rfl | ((try clear h); subst_vars; rfl) | ((try clear h); subst_vars; simp only [ln_set])) (by first | rfl | ((try clear h); subst_vars; rfl) | ((try clear h); subst_vars; simp only [ln_set]))) ?_
      conv => arg 1; cbv
      refine sat_brf (len_zero hΩ (ro_Value hE) (l := [(Value.mk r17_Kind r17_N r17_S (Sl.mk r17_L_l r17_L_x) (Sl.mk r17_F_l r17_F_x) r17_Elem r17_Key r17_HasKey)]) (b := false) (by rfl) (by first | rfl | ((try clear h); subst_vars; rfl))) ?_
      conv => arg 1; cbv
      refine sat_cat hΩ (ro_Value hE) l10 [(Value.mk r17_Kind r17_N r17_S (Sl.mk r17_L_l r17_L_x) (Sl.mk r17_F_l r17_F_x) r17_Elem r17_Key r17_HasKey)] (by first | rfl | ((try clear h); subst_vars; rfl)) (by first | rfl | ((try clear h); subst_vars; rfl)) fun l19 hl20 n21 hn22 => ?_
      conv => arg 1; cbv
      replace h := bif_some h
      obtain ⟨hb23, h⟩ := h
      refine sat_true (by first | exact hb23 | ((try clear h); subst_vars; first | exact hb23 | rfl)) ?_
      conv => arg 1; cbv
      replace h := bif_some h
      obtain ⟨hb24, h⟩ := h
      refine sat_true (by first | exact hb24 | ((try clear h); subst_vars; first | exact hb24 | rfl)) ?_
      conv => arg 1; cbv
      obtain rfl := Option.some.inj h
      subst_vars
      first | exact sat_pure ⟨rfl, rfl, rfl⟩ | (refine sat_pure ⟨rfl, ?_, ?_⟩ <;> first | rfl | (dsimp only; simp only [ln_set]; rfl))
    · refine sat_brf (by first | exact hb14 | ((try clear h); subst_vars; first | exact hb14 | rfl)) ?_
      conv => arg 1; cbv
      obtain rfl := Option.some.inj h
      subst_vars
      first | exact sat_pure (.inl ⟨⟨_, rfl⟩, rfl⟩) | (refine sat_pure (.inl ⟨⟨_, rfl⟩, ?_⟩); dsimp only; simp only [ln_set]; rfl)
  · clear hl25
    rcases q with ⟨o26, o27⟩
    dsimp only at h
    obtain ⟨ln_o26, hln_o26⟩ : ∃ n, ln o26 = n := ⟨_, rfl⟩
    simp only [hln_o26]
    conv => arg 1; cbv
    refine sat_in hΩ ?_
    conv => arg 1; cbv
    refine sat_true (ieq_ok hΩ _) ?_
    conv => arg 1; cbv
    refine sat_true (fits_l hΩ (ro_Value hE) [(Value.mk 0 0 (⟨#[115, 112, 97, 114, 101]⟩ : ByteArray) (Sl.mk [] (some [])) (Sl.mk [] (some [])) 0 ByteArray.empty false)] (by first | rfl | ((try clear h); subst_vars; rfl))) ?_
    conv => arg 1; cbv
    refine sat_true (len_ok hΩ (ro_Value hE) o26 (by first | rfl | ((try clear h); subst_vars; rfl) | ((try clear h); subst_vars; simp only [ln_set])) (by first | rfl | ((try clear h); subst_vars; rfl) | ((try clear h); subst_vars; simp only [ln_set]))) ?_
    conv => arg 1; cbv
    refine sat_brf (len_zero hΩ (ro_Value hE) (l := [(Value.mk 0 0 (⟨#[115, 112, 97, 114, 101]⟩ : ByteArray) (Sl.mk [] (some [])) (Sl.mk [] (some [])) 0 ByteArray.empty false)]) (b := false) (by rfl) (by first | rfl | ((try clear h); subst_vars; rfl))) ?_
    conv => arg 1; cbv
    refine sat_cat hΩ (ro_Value hE) o26 [(Value.mk 0 0 (⟨#[115, 112, 97, 114, 101]⟩ : ByteArray) (Sl.mk [] (some [])) (Sl.mk [] (some [])) 0 ByteArray.empty false)] (by first | rfl | ((try clear h); subst_vars; rfl)) (by first | rfl | ((try clear h); subst_vars; rfl)) fun l28 hl29 n30 hn31 => ?_
    conv => arg 1; cbv
    replace h := bif_some h
    obtain ⟨hb32, h⟩ := h
    refine sat_true (by first | exact hb32 | ((try clear h); subst_vars; first | exact hb32 | rfl)) ?_
    conv => arg 1; cbv
    replace h := bif_some h
    obtain ⟨hb33, h⟩ := h
    refine sat_true (by first | exact hb33 | ((try clear h); subst_vars; first | exact hb33 | rfl)) ?_
    conv => arg 1; cbv
    refine sat_len hΩ (ro_Value hE) a0_l (by first | rfl | ((try clear h); subst_vars; rfl)) fun n34 hn35 => ?_
    conv => arg 1; cbv
    refine sat_true (len_ok hΩ (ro_Value hE) (o26 ++ [(Value.mk 0 0 (⟨#[115, 112, 97, 114, 101]⟩ : ByteArray) (Sl.mk [] (some [])) (Sl.mk [] (some [])) 0 ByteArray.empty false)]) (by first | rfl | ((try clear h); subst_vars; rfl) | ((try clear h); subst_vars; simp only [ln_set])) (by first | rfl | ((try clear h); subst_vars; rfl) | ((try clear h); subst_vars; simp only [ln_set]))) ?_
    conv => arg 1; cbv
    replace h := bif_cases h
    rcases h with ⟨hb36, h⟩ | ⟨hb36, h⟩
    · refine sat_brt (by first | exact hb36 | ((try clear h); subst_vars; first | exact hb36 | rfl)) ?_
      conv => arg 1; cbv
      refine sat_len hΩ (ro_Value hE) (o26 ++ [(Value.mk 0 0 (⟨#[115, 112, 97, 114, 101]⟩ : ByteArray) (Sl.mk [] (some [])) (Sl.mk [] (some [])) 0 ByteArray.empty false)]) (by first | rfl | ((try clear h); subst_vars; rfl)) fun n37 hn38 => ?_
      conv => arg 1; cbv
      refine sat_cat hΩ (ro_Value hE) (o26 ++ [(Value.mk 0 0 (⟨#[115, 112, 97, 114, 101]⟩ : ByteArray) (Sl.mk [] (some [])) (Sl.mk [] (some [])) 0 ByteArray.empty false)]) [] (by first | rfl | ((try clear h); subst_vars; rfl)) (by first | rfl | ((try clear h); subst_vars; rfl)) fun l39 hl40 n41 hn42 => ?_
      conv => arg 1; cbv
      replace h := bif_some h
      obtain ⟨hb43, h⟩ := h
      refine sat_true (by first | exact hb43 | ((try clear h); subst_vars; first | exact hb43 | rfl)) ?_
      conv => arg 1; cbv
      replace h := bif_some h
      obtain ⟨hb44, h⟩ := h
      refine sat_true (by first | exact hb44 | ((try clear h); subst_vars; first | exact hb44 | rfl)) ?_
      conv => arg 1; cbv
      replace h := bif_some h
      obtain ⟨hb45, h⟩ := h
      refine sat_true (by first | exact hb45 | ((try clear h); subst_vars; first | exact hb45 | rfl)) ?_
      conv => arg 1; cbv
      refine sat_cut hΩ (ro_Value hE) ((o26 ++ [(Value.mk 0 0 (⟨#[115, 112, 97, 114, 101]⟩ : ByteArray) (Sl.mk [] (some [])) (Sl.mk [] (some [])) 0 ByteArray.empty false)]) ++ []) 0 (ln a0_l) (by first | rfl | ((try clear h); subst_vars; rfl)) (by first | rfl | ((try clear h); subst_vars; rfl)) (by first | rfl | ((try clear h); subst_vars; rfl)) fun l46 hl47 => ?_
      conv => arg 1; cbv
      refine sat_cut hΩ (ro_Value hE) ((o26 ++ [(Value.mk 0 0 (⟨#[115, 112, 97, 114, 101]⟩ : ByteArray) (Sl.mk [] (some [])) (Sl.mk [] (some [])) 0 ByteArray.empty false)]) ++ []) (ln a0_l) (ln ((o26 ++ [(Value.mk 0 0 (⟨#[115, 112, 97, 114, 101]⟩ : ByteArray) (Sl.mk [] (some [])) (Sl.mk [] (some [])) 0 ByteArray.empty false)]) ++ [])) (by first | rfl | ((try clear h); subst_vars; rfl)) (by first | rfl | ((try clear h); subst_vars; rfl)) (by first | rfl | ((try clear h); subst_vars; rfl)) fun l48 hl49 => ?_
      conv => arg 1; cbv
      obtain rfl := Option.some.inj h
      subst_vars
      exact sat_pure rfl
    · refine sat_brf (by first | exact hb36 | ((try clear h); subst_vars; first | exact hb36 | rfl)) ?_
      conv => arg 1; cbv
      refine sat_len hΩ (ro_Value hE) (o26 ++ [(Value.mk 0 0 (⟨#[115, 112, 97, 114, 101]⟩ : ByteArray) (Sl.mk [] (some [])) (Sl.mk [] (some [])) 0 ByteArray.empty false)]) (by first | rfl | ((try clear h); subst_vars; rfl)) fun n50 hn51 => ?_
      conv => arg 1; cbv
      replace h := bif_some h
      obtain ⟨hb52, h⟩ := h
      refine sat_true (by first | exact hb52 | ((try clear h); subst_vars; first | exact hb52 | rfl)) ?_
      conv => arg 1; cbv
      replace h := bif_some h
      obtain ⟨hb53, h⟩ := h
      refine sat_true (by first | exact hb53 | ((try clear h); subst_vars; first | exact hb53 | rfl)) ?_
      conv => arg 1; cbv
      replace h := bif_some h
      obtain ⟨hb54, h⟩ := h
      refine sat_true (by first | exact hb54 | ((try clear h); subst_vars; first | exact hb54 | rfl)) ?_
      conv => arg 1; cbv
      refine sat_cut hΩ (ro_Value hE) (o26 ++ [(Value.mk 0 0 (⟨#[115, 112, 97, 114, 101]⟩ : ByteArray) (Sl.mk [] (some [])) (Sl.mk [] (some [])) 0 ByteArray.empty false)]) 0 (ln a0_l) (by first | rfl | ((try clear h); subst_vars; rfl)) (by first | rfl | ((try clear h); subst_vars; rfl)) (by first | rfl | ((try clear h); subst_vars; rfl)) fun l55 hl56 => ?_
      conv => arg 1; cbv
      obtain rfl := Option.some.inj h
      subst_vars
      exact sat_pure rfl
set_option maxHeartbeats 4000000 in
theorem okb35 {Ω : Om} {E : Enc} (hΩ : real (call S) = Ω) (hE : theEnc = E) {fu : Nat} {p13 : (Sl Value) → Option ((Sl Value))} (hp13 : ∀ {a0 : Sl Value} {r : (Sl Value)}, p13 a0 = some r → ∀ {args : List PV}, [PV.d (.sl (E.L_Value a0.l) (E.X_Value a0.x))] = args → ∀ (st : St), Sat (Ω.cf 13 args st) (fun q => q = (PV.d (.sl (E.L_Value r.l) (E.X_Value r.x)), st))) {p35 : Value → Option (Value)} (hp35 : ∀ {a0 : Value} {r : Value}, p35 a0 = some r → ∀ {args : List PV}, [pv_Value E a0] = args → ∀ (st : St), Sat (Ω.cf 35 args st) (fun q => q = (pv_Value E r, st))) {p57 : (Sl Field) → Option ((Sl Field))} (hp57 : ∀ {a0 : Sl Field} {r : (Sl Field)}, p57 a0 = some r → ∀ {args : List PV}, [PV.d (.sl (E.L_Field a0.l) (E.X_Field a0.x))] = args → ∀ (st : St), Sat (Ω.cf 57 args st) (fun q => q = (PV.d (.sl (E.L_Field r.l) (E.X_Field r.x)), st))) {p74 : Field → Option (Field)} (hp74 : ∀ {a0 : Field} {r : Field}, p74 a0 = some r → ∀ {args : List PV}, [pv_Field E a0] = args → ∀ (st : St), Sat (Ω.cf 74 args st) (fun q => q = (pv_Field E r, st))) {a0 : Value} {r : Value} (h : Pb35 fu p13 p35 p57 p74 a0 = some r) {args : List PV} (ha : [pv_Value E a0] = args) (st : St) :
    Sat (Ω.cf 35 args st) (fun q => q = (pv_Value E r, st)) := by
  subst ha
  rcases a0 with ⟨a0_Kind, a0_N, a0_S, ⟨a0_L_l, a0_L_x⟩, ⟨a0_F_l, a0_F_x⟩, a0_Elem, a0_Key, a0_HasKey⟩
  rw [cf_body hΩ (f := 35) (fn := Try.f35) (x := c35) rfl rfl c35_ok rfl rfl]
  unfold Pb35 at h
  try dsimp only at h
  conv => arg 1; cbv
  obtain ⟨⟨r1_l, r1_x⟩, hx2, hz⟩ := Option.bind_eq_some_iff.1 h
  clear h
  have h := hz
  clear hz
  try dsimp only at h
  refine sat_call (hp13 hx2 (by (try clear h); subst_vars; rfl) _) ?_
  conv => arg 1; cbv
  refine sat_true (same_ok hΩ _) ?_
  conv => arg 1; cbv
  obtain ⟨⟨r3_l, r3_x⟩, hx4, hz⟩ := Option.bind_eq_some_iff.1 h
  clear h
  have h := hz
  clear hz
  try dsimp only at h
  refine sat_call (hp57 hx4 (by (try clear h); subst_vars; rfl) _) ?_
  conv => arg 1; cbv
  refine sat_true (same_ok hΩ _) ?_
  conv => arg 1; cbv
  refine sat_tick hΩ ?_
  conv => arg 1; cbv
  refine sat_true (same_ok hΩ _) ?_
  conv => arg 1; cbv
  obtain rfl := Option.some.inj h
  subst_vars
  exact sat_pure rfl
set_option maxHeartbeats 4000000 in
theorem okb57 {Ω : Om} {E : Enc} (hΩ : real (call S) = Ω) (hE : theEnc = E) {fu : Nat} {p13 : (Sl Value) → Option ((Sl Value))} (hp13 : ∀ {a0 : Sl Value} {r : (Sl Value)}, p13 a0 = some r → ∀ {args : List PV}, [PV.d (.sl (E.L_Value a0.l) (E.X_Value a0.x))] = args → ∀ (st : St), Sat (Ω.cf 13 args st) (fun q => q = (PV.d (.sl (E.L_Value r.l) (E.X_Value r.x)), st))) {p35 : Value → Option (Value)} (hp35 : ∀ {a0 : Value} {r : Value}, p35 a0 = some r → ∀ {args : List PV}, [pv_Value E a0] = args → ∀ (st : St), Sat (Ω.cf 35 args st) (fun q => q = (pv_Value E r, st))) {p57 : (Sl Field) → Option ((Sl Field))} (hp57 : ∀ {a0 : Sl Field} {r : (Sl Field)}, p57 a0 = some r → ∀ {args : List PV}, [PV.d (.sl (E.L_Field a0.l) (E.X_Field a0.x))] = args → ∀ (st : St), Sat (Ω.cf 57 args st) (fun q => q = (PV.d (.sl (E.L_Field r.l) (E.X_Field r.x)), st))) {p74 : Field → Option (Field)} (hp74 : ∀ {a0 : Field} {r : Field}, p74 a0 = some r → ∀ {args : List PV}, [pv_Field E a0] = args → ∀ (st : St), Sat (Ω.cf 74 args st) (fun q => q = (pv_Field E r, st))) {a0 : Sl Field} {r : (Sl Field)} (h : Pb57 fu p13 p35 p57 p74 a0 = some r) {args : List PV} (ha : [PV.d (.sl (E.L_Field a0.l) (E.X_Field a0.x))] = args) (st : St) :
    Sat (Ω.cf 57 args st) (fun q => q = (PV.d (.sl (E.L_Field r.l) (E.X_Field r.x)), st)) := by
  subst ha
  rcases a0 with ⟨a0_l, a0_x⟩
  rw [cf_body hΩ (f := 57) (fn := Try.f57) (x := c57) rfl rfl c57_ok rfl rfl]
  unfold Pb57 at h
  try dsimp only at h
  conv => arg 1; cbv
  refine sat_len hΩ (ro_Field hE) a0_l (by first | rfl | ((try clear h); subst_vars; rfl)) fun n1 hn2 => ?_
  conv => arg 1; cbv
  replace h := bif_some h
  obtain ⟨hb7, h⟩ := h
  refine sat_true (by first | exact hb7 | ((try clear h); subst_vars; first | exact hb7 | rfl)) ?_
  conv => arg 1; cbv
  replace h := bif_some h
  obtain ⟨hb8, h⟩ := h
  refine sat_true (by first | exact hb8 | ((try clear h); subst_vars; first | exact hb8 | rfl)) ?_
  conv => arg 1; cbv
  replace h := bif_some h
  obtain ⟨hb9, h⟩ := h
  refine sat_true (by first | exact hb9 | ((try clear h); subst_vars; first | exact hb9 | rfl)) ?_
  conv => arg 1; cbv
  refine sat_fill hΩ (ro_Field hE) (Field.mk ByteArray.empty (Value.mk 0 0 ByteArray.empty (Sl.mk [] (some [])) (Sl.mk [] (some [])) 0 ByteArray.empty false)) 0 (by first | rfl | ((try clear h); subst_vars; rfl)) (by first | rfl | ((try clear h); subst_vars; rfl)) fun l3 hl4 n5 hn6 => ?_
  conv => arg 1; cbv
  obtain ⟨q, hl25, hz⟩ := Option.bind_eq_some_iff.1 h
  clear h
  have h := hz
  clear hz
  refine sat_loop hΩ (fun (a : (List Field) × Int) => (match a with | (l10, i11) => ([(0, PV.d (.sl (E.L_Field a0_l) (E.X_Field a0_x))), (2, PV.d (.sl [] (some []))), (3, PV.row 0 0 (ln l10)), (4, PV.d (.int .i64 i11))], ([X.Obj.row 49 9 (E.L_Field l10) false (some (Ω.wrap .i64 (Ω.add n1 1)))] : List X.Obj) :: st))) (fun (q : ((List Field) × Int)) => (match q with | (o26, o27) => (.exit 0, [(0, PV.d (.sl (E.L_Field a0_l) (E.X_Field a0_x))), (2, PV.d (.sl [] (some []))), (3, PV.row 0 0 (ln o26)), (4, PV.d (.int .i64 o27))], ([X.Obj.row 49 9 (E.L_Field o26) false (some (Ω.wrap .i64 (Ω.add n1 1)))] : List X.Obj) :: st))) ((List.replicate (Int.toNat 0) (Field.mk ByteArray.empty (Value.mk 0 0 ByteArray.empty (Sl.mk [] (some [])) (Sl.mk [] (some [])) 0 ByteArray.empty false))), 0) hl25 (by first | rfl | ((try clear h); subst_vars; rfl) | ((try clear h); subst_vars; simp only [ln_set])) ?_ ?_
  · clear h hl25
    rintro ⟨l10, i11⟩ q h
    unfold P57_s0 at h
    dsimp only at h
    obtain ⟨ln_l10, hln_l10⟩ : ∃ n, ln l10 = n := ⟨_, rfl⟩
    simp only [hln_l10]
    conv => arg 1; cbv
    refine sat_len hΩ (ro_Field hE) a0_l (by first | rfl | ((try clear h); subst_vars; rfl)) fun n12 hn13 => ?_
    conv => arg 1; cbv
    refine sat_in hΩ ?_
    conv => arg 1; cbv
    replace h := bif_cases h
    rcases h with ⟨hb14, h⟩ | ⟨hb14, h⟩
    · refine sat_brt (by first | exact hb14 | ((try clear h); subst_vars; first | exact hb14 | rfl)) ?_
      conv => arg 1; cbv
      refine sat_in hΩ ?_
      conv => arg 1; cbv
      refine sat_true (fits_l hΩ (ro_Field hE) a0_l (by first | rfl | ((try clear h); subst_vars; rfl))) ?_
      conv => arg 1; cbv
      obtain ⟨⟨x15_Name, ⟨x15_Value__Kind, x15_Value__N, x15_Value__S, ⟨x15_Value__L_l, x15_Value__L_x⟩, ⟨x15_Value__F_l, x15_Value__F_x⟩, x15_Value__Elem, x15_Value__Key, x15_Value__HasKey⟩⟩, hx16, hz⟩ := Option.bind_eq_some_iff.1 h
      clear h
      have h := hz
      clear hz
      try dsimp only at h
      refine sat_bind (nth_ok hΩ (ro_Field hE) hx16 (by first | rfl | ((try clear h); subst_vars; rfl)) (by first | rfl | ((try clear h); subst_vars; rfl))) ?_
      conv => arg 1; cbv
      obtain ⟨⟨r17_Name, ⟨r17_Value__Kind, r17_Value__N, r17_Value__S, ⟨r17_Value__L_l, r17_Value__L_x⟩, ⟨r17_Value__F_l, r17_Value__F_x⟩, r17_Value__Elem, r17_Value__Key, r17_Value__HasKey⟩⟩, hx18, hz⟩ := Option.bind_eq_some_iff.1 h
      clear h
      have h := hz
      clear hz
      try dsimp only at h
      refine sat_call (hp74 hx18 (by (try clear h); subst_vars; rfl) _) ?_
      conv => arg 1; cbv
      refine sat_true (ieq_ok hΩ _) ?_
      conv => arg 1; cbv
      refine sat_true (fits_l hΩ (ro_Field hE) [(Field.mk r17_Name (Value.mk r17_Value__Kind r17_Value__N r17_Value__S (Sl.mk r17_Value__L_l r17_Value__L_x) (Sl.mk r17_Value__F_l r17_Value__F_x) r17_Value__Elem r17_Value__Key r17_Value__HasKey))] (by first | rfl | ((try clear h); subst_vars; rfl))) ?_
      conv => arg 1; cbv
      refine sat_true (len_ok hΩ (ro_Field hE) l10 (by first | rfl | ((try clear h); subst_vars; rfl) | ((try clear h); subst_vars; simp only [ln_set])) (by first | rfl | ((try clear h); subst_vars; rfl) | ((try clear h); subst_vars; simp only [ln_set]))) ?_
      conv => arg 1; cbv
      refine sat_brf (len_zero hΩ (ro_Field hE) (l := [(Field.mk r17_Name (Value.mk r17_Value__Kind r17_Value__N r17_Value__S (Sl.mk r17_Value__L_l r17_Value__L_x) (Sl.mk r17_Value__F_l r17_Value__F_x) r17_Value__Elem r17_Value__Key r17_Value__HasKey))]) (b := false) (by rfl) (by first | rfl | ((try clear h); subst_vars; rfl))) ?_
      conv => arg 1; cbv
      refine sat_cat hΩ (ro_Field hE) l10 [(Field.mk r17_Name (Value.mk r17_Value__Kind r17_Value__N r17_Value__S (Sl.mk r17_Value__L_l r17_Value__L_x) (Sl.mk r17_Value__F_l r17_Value__F_x) r17_Value__Elem r17_Value__Key r17_Value__HasKey))] (by first | rfl | ((try clear h); subst_vars; rfl)) (by first | rfl | ((try clear h); subst_vars; rfl)) fun l19 hl20 n21 hn22 => ?_
      conv => arg 1; cbv
      replace h := bif_some h
      obtain ⟨hb23, h⟩ := h
      refine sat_true (by first | exact hb23 | ((try clear h); subst_vars; first | exact hb23 | rfl)) ?_
      conv => arg 1; cbv
      replace h := bif_some h
      obtain ⟨hb24, h⟩ := h
      refine sat_true (by first | exact hb24 | ((try clear h); subst_vars; first | exact hb24 | rfl)) ?_
      conv => arg 1; cbv
      obtain rfl := Option.some.inj h
      subst_vars
      first | exact sat_pure ⟨rfl, rfl, rfl⟩ | (refine sat_pure ⟨rfl, ?_, ?_⟩ <;> first | rfl | (dsimp only; simp only [ln_set]; rfl))
    · refine sat_brf (by first | exact hb14 | ((try clear h); subst_vars; first | exact hb14 | rfl)) ?_
      conv => arg 1; cbv
      obtain rfl := Option.some.inj h
      subst_vars
      first | exact sat_pure (.inl ⟨⟨_, rfl⟩, rfl⟩) | (refine sat_pure (.inl ⟨⟨_, rfl⟩, ?_⟩); dsimp only; simp only [ln_set]; rfl)
  · clear hl25
    rcases q with ⟨o26, o27⟩
    dsimp only at h
    obtain ⟨ln_o26, hln_o26⟩ : ∃ n, ln o26 = n := ⟨_, rfl⟩
    simp only [hln_o26]
    conv => arg 1; cbv
    refine sat_in hΩ ?_
    conv => arg 1; cbv
    refine sat_true (ieq_ok hΩ _) ?_
    conv => arg 1; cbv
    refine sat_true (fits_l hΩ (ro_Field hE) [(Field.mk (⟨#[115, 112, 97, 114, 101]⟩ : ByteArray) (Value.mk 0 0 ByteArray.empty (Sl.mk [] (some [])) (Sl.mk [] (some [])) 0 ByteArray.empty false))] (by first | rfl | ((try clear h); subst_vars; rfl))) ?_
    conv => arg 1; cbv
    refine sat_true (len_ok hΩ (ro_Field hE) o26 (by first | rfl | ((try clear h); subst_vars; rfl) | ((try clear h); subst_vars; simp only [ln_set])) (by first | rfl | ((try clear h); subst_vars; rfl) | ((try clear h); subst_vars; simp only [ln_set]))) ?_
    conv => arg 1; cbv
    refine sat_brf (len_zero hΩ (ro_Field hE) (l := [(Field.mk (⟨#[115, 112, 97, 114, 101]⟩ : ByteArray) (Value.mk 0 0 ByteArray.empty (Sl.mk [] (some [])) (Sl.mk [] (some [])) 0 ByteArray.empty false))]) (b := false) (by rfl) (by first | rfl | ((try clear h); subst_vars; rfl))) ?_
    conv => arg 1; cbv
    refine sat_cat hΩ (ro_Field hE) o26 [(Field.mk (⟨#[115, 112, 97, 114, 101]⟩ : ByteArray) (Value.mk 0 0 ByteArray.empty (Sl.mk [] (some [])) (Sl.mk [] (some [])) 0 ByteArray.empty false))] (by first | rfl | ((try clear h); subst_vars; rfl)) (by first | rfl | ((try clear h); subst_vars; rfl)) fun l28 hl29 n30 hn31 => ?_
    conv => arg 1; cbv
    replace h := bif_some h
    obtain ⟨hb32, h⟩ := h
    refine sat_true (by first | exact hb32 | ((try clear h); subst_vars; first | exact hb32 | rfl)) ?_
    conv => arg 1; cbv
    replace h := bif_some h
    obtain ⟨hb33, h⟩ := h
    refine sat_true (by first | exact hb33 | ((try clear h); subst_vars; first | exact hb33 | rfl)) ?_
    conv => arg 1; cbv
    refine sat_len hΩ (ro_Field hE) a0_l (by first | rfl | ((try clear h); subst_vars; rfl)) fun n34 hn35 => ?_
    conv => arg 1; cbv
    refine sat_true (len_ok hΩ (ro_Field hE) (o26 ++ [(Field.mk (⟨#[115, 112, 97, 114, 101]⟩ : ByteArray) (Value.mk 0 0 ByteArray.empty (Sl.mk [] (some [])) (Sl.mk [] (some [])) 0 ByteArray.empty false))]) (by first | rfl | ((try clear h); subst_vars; rfl) | ((try clear h); subst_vars; simp only [ln_set])) (by first | rfl | ((try clear h); subst_vars; rfl) | ((try clear h); subst_vars; simp only [ln_set]))) ?_
    conv => arg 1; cbv
    replace h := bif_cases h
    rcases h with ⟨hb36, h⟩ | ⟨hb36, h⟩
    · refine sat_brt (by first | exact hb36 | ((try clear h); subst_vars; first | exact hb36 | rfl)) ?_
      conv => arg 1; cbv
      refine sat_len hΩ (ro_Field hE) (o26 ++ [(Field.mk (⟨#[115, 112, 97, 114, 101]⟩ : ByteArray) (Value.mk 0 0 ByteArray.empty (Sl.mk [] (some [])) (Sl.mk [] (some [])) 0 ByteArray.empty false))]) (by first | rfl | ((try clear h); subst_vars; rfl)) fun n37 hn38 => ?_
      conv => arg 1; cbv
      refine sat_cat hΩ (ro_Field hE) (o26 ++ [(Field.mk (⟨#[115, 112, 97, 114, 101]⟩ : ByteArray) (Value.mk 0 0 ByteArray.empty (Sl.mk [] (some [])) (Sl.mk [] (some [])) 0 ByteArray.empty false))]) [] (by first | rfl | ((try clear h); subst_vars; rfl)) (by first | rfl | ((try clear h); subst_vars; rfl)) fun l39 hl40 n41 hn42 => ?_
      conv => arg 1; cbv
      replace h := bif_some h
      obtain ⟨hb43, h⟩ := h
      refine sat_true (by first | exact hb43 | ((try clear h); subst_vars; first | exact hb43 | rfl)) ?_
      conv => arg 1; cbv
      replace h := bif_some h
      obtain ⟨hb44, h⟩ := h
      refine sat_true (by first | exact hb44 | ((try clear h); subst_vars; first | exact hb44 | rfl)) ?_
      conv => arg 1; cbv
      replace h := bif_some h
      obtain ⟨hb45, h⟩ := h
      refine sat_true (by first | exact hb45 | ((try clear h); subst_vars; first | exact hb45 | rfl)) ?_
      conv => arg 1; cbv
      refine sat_cut hΩ (ro_Field hE) ((o26 ++ [(Field.mk (⟨#[115, 112, 97, 114, 101]⟩ : ByteArray) (Value.mk 0 0 ByteArray.empty (Sl.mk [] (some [])) (Sl.mk [] (some [])) 0 ByteArray.empty false))]) ++ []) 0 (ln a0_l) (by first | rfl | ((try clear h); subst_vars; rfl)) (by first | rfl | ((try clear h); subst_vars; rfl)) (by first | rfl | ((try clear h); subst_vars; rfl)) fun l46 hl47 => ?_
      conv => arg 1; cbv
      refine sat_cut hΩ (ro_Field hE) ((o26 ++ [(Field.mk (⟨#[115, 112, 97, 114, 101]⟩ : ByteArray) (Value.mk 0 0 ByteArray.empty (Sl.mk [] (some [])) (Sl.mk [] (some [])) 0 ByteArray.empty false))]) ++ []) (ln a0_l) (ln ((o26 ++ [(Field.mk (⟨#[115, 112, 97, 114, 101]⟩ : ByteArray) (Value.mk 0 0 ByteArray.empty (Sl.mk [] (some [])) (Sl.mk [] (some [])) 0 ByteArray.empty false))]) ++ [])) (by first | rfl | ((try clear h); subst_vars; rfl)) (by first | rfl | ((try clear h); subst_vars; rfl)) (by first | rfl | ((try clear h); subst_vars; rfl)) fun l48 hl49 => ?_
      conv => arg 1; cbv
      obtain rfl := Option.some.inj h
      subst_vars
      exact sat_pure rfl
    · refine sat_brf (by first | exact hb36 | ((try clear h); subst_vars; first | exact hb36 | rfl)) ?_
      conv => arg 1; cbv
      refine sat_len hΩ (ro_Field hE) (o26 ++ [(Field.mk (⟨#[115, 112, 97, 114, 101]⟩ : ByteArray) (Value.mk 0 0 ByteArray.empty (Sl.mk [] (some [])) (Sl.mk [] (some [])) 0 ByteArray.empty false))]) (by first | rfl | ((try clear h); subst_vars; rfl)) fun n50 hn51 => ?_
      conv => arg 1; cbv
      replace h := bif_some h
      obtain ⟨hb52, h⟩ := h
      refine sat_true (by first | exact hb52 | ((try clear h); subst_vars; first | exact hb52 | rfl)) ?_
      conv => arg 1; cbv
      replace h := bif_some h
      obtain ⟨hb53, h⟩ := h
      refine sat_true (by first | exact hb53 | ((try clear h); subst_vars; first | exact hb53 | rfl)) ?_
      conv => arg 1; cbv
      replace h := bif_some h
      obtain ⟨hb54, h⟩ := h
      refine sat_true (by first | exact hb54 | ((try clear h); subst_vars; first | exact hb54 | rfl)) ?_
      conv => arg 1; cbv
      refine sat_cut hΩ (ro_Field hE) (o26 ++ [(Field.mk (⟨#[115, 112, 97, 114, 101]⟩ : ByteArray) (Value.mk 0 0 ByteArray.empty (Sl.mk [] (some [])) (Sl.mk [] (some [])) 0 ByteArray.empty false))]) 0 (ln a0_l) (by first | rfl | ((try clear h); subst_vars; rfl)) (by first | rfl | ((try clear h); subst_vars; rfl)) (by first | rfl | ((try clear h); subst_vars; rfl)) fun l55 hl56 => ?_
      conv => arg 1; cbv
      obtain rfl := Option.some.inj h
      subst_vars
      exact sat_pure rfl
set_option maxHeartbeats 4000000 in
theorem okb74 {Ω : Om} {E : Enc} (hΩ : real (call S) = Ω) (hE : theEnc = E) {fu : Nat} {p13 : (Sl Value) → Option ((Sl Value))} (hp13 : ∀ {a0 : Sl Value} {r : (Sl Value)}, p13 a0 = some r → ∀ {args : List PV}, [PV.d (.sl (E.L_Value a0.l) (E.X_Value a0.x))] = args → ∀ (st : St), Sat (Ω.cf 13 args st) (fun q => q = (PV.d (.sl (E.L_Value r.l) (E.X_Value r.x)), st))) {p35 : Value → Option (Value)} (hp35 : ∀ {a0 : Value} {r : Value}, p35 a0 = some r → ∀ {args : List PV}, [pv_Value E a0] = args → ∀ (st : St), Sat (Ω.cf 35 args st) (fun q => q = (pv_Value E r, st))) {p57 : (Sl Field) → Option ((Sl Field))} (hp57 : ∀ {a0 : Sl Field} {r : (Sl Field)}, p57 a0 = some r → ∀ {args : List PV}, [PV.d (.sl (E.L_Field a0.l) (E.X_Field a0.x))] = args → ∀ (st : St), Sat (Ω.cf 57 args st) (fun q => q = (PV.d (.sl (E.L_Field r.l) (E.X_Field r.x)), st))) {p74 : Field → Option (Field)} (hp74 : ∀ {a0 : Field} {r : Field}, p74 a0 = some r → ∀ {args : List PV}, [pv_Field E a0] = args → ∀ (st : St), Sat (Ω.cf 74 args st) (fun q => q = (pv_Field E r, st))) {a0 : Field} {r : Field} (h : Pb74 fu p13 p35 p57 p74 a0 = some r) {args : List PV} (ha : [pv_Field E a0] = args) (st : St) :
    Sat (Ω.cf 74 args st) (fun q => q = (pv_Field E r, st)) := by
  subst ha
  rcases a0 with ⟨a0_Name, ⟨a0_Value__Kind, a0_Value__N, a0_Value__S, ⟨a0_Value__L_l, a0_Value__L_x⟩, ⟨a0_Value__F_l, a0_Value__F_x⟩, a0_Value__Elem, a0_Value__Key, a0_Value__HasKey⟩⟩
  rw [cf_body hΩ (f := 74) (fn := Try.f74) (x := c74) rfl rfl c74_ok rfl rfl]
  unfold Pb74 at h
  try dsimp only at h
  conv => arg 1; cbv
  obtain ⟨⟨r1_Kind, r1_N, r1_S, ⟨r1_L_l, r1_L_x⟩, ⟨r1_F_l, r1_F_x⟩, r1_Elem, r1_Key, r1_HasKey⟩, hx2, hz⟩ := Option.bind_eq_some_iff.1 h
  clear h
  have h := hz
  clear hz
  try dsimp only at h
  refine sat_call (hp35 hx2 (by (try clear h); subst_vars; rfl) _) ?_
  conv => arg 1; cbv
  refine sat_true (same_ok hΩ _) ?_
  conv => arg 1; cbv
  refine sat_true (same_ok hΩ _) ?_
  conv => arg 1; cbv
  obtain rfl := Option.some.inj h
  subst_vars
  exact sat_pure rfl
theorem okr13 {Ω : Om} {E : Enc} (hΩ : real (call S) = Ω) (hE : theEnc = E) : ∀ fu,
    (∀ {a0 : Sl Value} {r : (Sl Value)}, P13 fu a0 = some r → ∀ {args : List PV}, [PV.d (.sl (E.L_Value a0.l) (E.X_Value a0.x))] = args → ∀ (st : St), Sat (Ω.cf 13 args st) (fun q => q = (PV.d (.sl (E.L_Value r.l) (E.X_Value r.x)), st))) ∧
    (∀ {a0 : Value} {r : Value}, P35 fu a0 = some r → ∀ {args : List PV}, [pv_Value E a0] = args → ∀ (st : St), Sat (Ω.cf 35 args st) (fun q => q = (pv_Value E r, st))) ∧
    (∀ {a0 : Sl Field} {r : (Sl Field)}, P57 fu a0 = some r → ∀ {args : List PV}, [PV.d (.sl (E.L_Field a0.l) (E.X_Field a0.x))] = args → ∀ (st : St), Sat (Ω.cf 57 args st) (fun q => q = (PV.d (.sl (E.L_Field r.l) (E.X_Field r.x)), st))) ∧
    (∀ {a0 : Field} {r : Field}, P74 fu a0 = some r → ∀ {args : List PV}, [pv_Field E a0] = args → ∀ (st : St), Sat (Ω.cf 74 args st) (fun q => q = (pv_Field E r, st))) := by
  intro fu
  induction fu with
  | zero => exact ⟨(fun h => (by cases h)), (fun h => (by cases h)), (fun h => (by cases h)), (fun h => (by cases h))⟩
  | succ fu ih =>
    obtain ⟨i13, i35, i57, i74⟩ := ih
    exact ⟨(fun h => @fun args ha st => okb13 (fu := fu) hΩ hE i13 i35 i57 i74 h ha st), (fun h => @fun args ha st => okb35 (fu := fu) hΩ hE i13 i35 i57 i74 h ha st), (fun h => @fun args ha st => okb57 (fu := fu) hΩ hE i13 i35 i57 i74 h ha st), (fun h => @fun args ha st => okb74 (fu := fu) hΩ hE i13 i35 i57 i74 h ha st)⟩
theorem ok13 {Ω : Om} {E : Enc} (hΩ : real (call S) = Ω) (hE : theEnc = E) {fu : Nat} : ∀ {a0 : Sl Value} {r : (Sl Value)}, P13 fu a0 = some r → ∀ {args : List PV}, [PV.d (.sl (E.L_Value a0.l) (E.X_Value a0.x))] = args → ∀ (st : St), Sat (Ω.cf 13 args st) (fun q => q = (PV.d (.sl (E.L_Value r.l) (E.X_Value r.x)), st)) := (okr13 hΩ hE fu).1
theorem ok35 {Ω : Om} {E : Enc} (hΩ : real (call S) = Ω) (hE : theEnc = E) {fu : Nat} : ∀ {a0 : Value} {r : Value}, P35 fu a0 = some r → ∀ {args : List PV}, [pv_Value E a0] = args → ∀ (st : St), Sat (Ω.cf 35 args st) (fun q => q = (pv_Value E r, st)) := (okr13 hΩ hE fu).2.1
theorem ok57 {Ω : Om} {E : Enc} (hΩ : real (call S) = Ω) (hE : theEnc = E) {fu : Nat} : ∀ {a0 : Sl Field} {r : (Sl Field)}, P57 fu a0 = some r → ∀ {args : List PV}, [PV.d (.sl (E.L_Field a0.l) (E.X_Field a0.x))] = args → ∀ (st : St), Sat (Ω.cf 57 args st) (fun q => q = (PV.d (.sl (E.L_Field r.l) (E.X_Field r.x)), st)) := (okr13 hΩ hE fu).2.2.1
theorem ok74 {Ω : Om} {E : Enc} (hΩ : real (call S) = Ω) (hE : theEnc = E) {fu : Nat} : ∀ {a0 : Field} {r : Field}, P74 fu a0 = some r → ∀ {args : List PV}, [pv_Field E a0] = args → ∀ (st : St), Sat (Ω.cf 74 args st) (fun q => q = (pv_Field E r, st)) := (okr13 hΩ hE fu).2.2.2
set_option maxHeartbeats 4000000 in
theorem ok36 {Ω : Om} {E : Enc} (hΩ : real (call S) = Ω) (hE : theEnc = E) {fu : Nat} {a0 : Sl Value} {a1 : Sl Value} {a2 : (Value → Value → Option (Bool))} {a2_g : Nat} (hf : ∀ {x0 : Value} {x1 : Value} {r : Bool}, a2 x0 x1 = some r → ∀ {args : List PV}, [pv_Value E x0, pv_Value E x1] = args → ∀ (st : St), Sat (Ω.cf a2_g args st) (fun q => q = (PV.d (.bool r), st))) {r : Bool} (h : P36 fu a0 a1 a2 = some r) {args : List PV} (ha : [PV.d (.sl (E.L_Value a0.l) (E.X_Value a0.x)), PV.d (.sl (E.L_Value a1.l) (E.X_Value a1.x)), PV.d (.fn a2_g [])] = args) (st : St) :
    Sat (Ω.cf 36 args st) (fun q => q = (PV.d (.bool r), st)) := by
  subst ha
  rcases a0 with ⟨a0_l, a0_x⟩
  rcases a1 with ⟨a1_l, a1_x⟩
  rw [cf_body hΩ (f := 36) (fn := Try.f36) (x := c36) rfl rfl c36_ok rfl rfl]
  unfold P36 at h
  try dsimp only at h
  conv => arg 1; cbv
  refine sat_len hΩ (ro_Value hE) a0_l (by first | rfl | ((try clear h); subst_vars; rfl)) fun n1 hn2 => ?_
  conv => arg 1; cbv
  refine sat_len hΩ (ro_Value hE) a1_l (by first | rfl | ((try clear h); subst_vars; rfl)) fun n3 hn4 => ?_
  conv => arg 1; cbv
  refine sat_in hΩ ?_
  conv => arg 1; cbv
  replace h := bif_cases h
  rcases h with ⟨hb5, h⟩ | ⟨hb5, h⟩
  · refine sat_brt (by first | exact hb5 | ((try clear h); subst_vars; first | exact hb5 | rfl)) ?_
    conv => arg 1; cbv
    obtain rfl := Option.some.inj h
    subst_vars
    exact sat_pure rfl
  · refine sat_brf (by first | exact hb5 | ((try clear h); subst_vars; first | exact hb5 | rfl)) ?_
    conv => arg 1; cbv
    refine sat_len hΩ (ro_Value hE) a0_l (by first | rfl | ((try clear h); subst_vars; rfl)) fun n6 hn7 => ?_
    conv => arg 1; cbv
    obtain ⟨q, hl17, hz⟩ := Option.bind_eq_some_iff.1 h
    clear h
    have h := hz
    clear hz
    refine sat_loop hΩ (fun (a : Int) => (match a with | i8 => ([(0, PV.d (.sl (E.L_Value a0_l) (E.X_Value a0_x))), (1, PV.d (.sl (E.L_Value a1_l) (E.X_Value a1_x))), (2, PV.d (.fn a2_g [])), (6, PV.d (.bool false)), (15, PV.d (.sl (E.L_Value a0_l) (E.X_Value a0_x))), (16, PV.d (.int .i64 n6)), (17, PV.d (.int .i64 i8))], ([] : List X.Obj) :: st))) (fun (q : Int ⊕ Int) => (match q with | .inl o18 => (.exit 0, [(0, PV.d (.sl (E.L_Value a0_l) (E.X_Value a0_x))), (1, PV.d (.sl (E.L_Value a1_l) (E.X_Value a1_x))), (2, PV.d (.fn a2_g [])), (6, PV.d (.bool false)), (15, PV.d (.sl (E.L_Value a0_l) (E.X_Value a0_x))), (16, PV.d (.int .i64 n6)), (17, PV.d (.int .i64 o18))], ([] : List X.Obj) :: st) | .inr o19 => (.ret, [(0, PV.d (.sl (E.L_Value a0_l) (E.X_Value a0_x))), (1, PV.d (.sl (E.L_Value a1_l) (E.X_Value a1_x))), (2, PV.d (.fn a2_g [])), (6, PV.d (.bool false)), (15, PV.d (.sl (E.L_Value a0_l) (E.X_Value a0_x))), (16, PV.d (.int .i64 n6)), (17, PV.d (.int .i64 o19))], ([] : List X.Obj) :: st))) 0 hl17 (by first | rfl | ((try clear h); subst_vars; rfl) | ((try clear h); subst_vars; simp only [ln_set])) ?_ ?_
    · clear h hl17
      rintro i8 q h
      unfold P36_s0 at h
      dsimp only at h
      conv => arg 1; cbv
      refine sat_in hΩ ?_
      conv => arg 1; cbv
      replace h := bif_cases h
      rcases h with ⟨hb9, h⟩ | ⟨hb9, h⟩
      · refine sat_brt (by first | exact hb9 | ((try clear h); subst_vars; first | exact hb9 | rfl)) ?_
        conv => arg 1; cbv
        refine sat_true (fits_l hΩ (ro_Value hE) a0_l (by first | rfl | ((try clear h); subst_vars; rfl))) ?_
        conv => arg 1; cbv
        obtain ⟨⟨x10_Kind, x10_N, x10_S, ⟨x10_L_l, x10_L_x⟩, ⟨x10_F_l, x10_F_x⟩, x10_Elem, x10_Key, x10_HasKey⟩, hx11, hz⟩ := Option.bind_eq_some_iff.1 h
        clear h
        have h := hz
        clear hz
        try dsimp only at h
        refine sat_bind (nth_ok hΩ (ro_Value hE) hx11 (by first | rfl | ((try clear h); subst_vars; rfl)) (by first | rfl | ((try clear h); subst_vars; rfl))) ?_
        conv => arg 1; cbv
        refine sat_true (fits_l hΩ (ro_Value hE) a1_l (by first | rfl | ((try clear h); subst_vars; rfl))) ?_
        conv => arg 1; cbv
        obtain ⟨⟨x12_Kind, x12_N, x12_S, ⟨x12_L_l, x12_L_x⟩, ⟨x12_F_l, x12_F_x⟩, x12_Elem, x12_Key, x12_HasKey⟩, hx13, hz⟩ := Option.bind_eq_some_iff.1 h
        clear h
        have h := hz
        clear hz
        try dsimp only at h
        refine sat_bind (nth_ok hΩ (ro_Value hE) hx13 (by first | rfl | ((try clear h); subst_vars; rfl)) (by first | rfl | ((try clear h); subst_vars; rfl))) ?_
        conv => arg 1; cbv
        obtain ⟨r14, hx15, hz⟩ := Option.bind_eq_some_iff.1 h
        clear h
        have h := hz
        clear hz
        refine sat_call (hf hx15 (by (try clear h); subst_vars; rfl) _) ?_
        conv => arg 1; cbv
        refine sat_in hΩ ?_
        conv => arg 1; cbv
        replace h := bif_cases h
        rcases h with ⟨hb16, h⟩ | ⟨hb16, h⟩
        · refine sat_brt (by first | exact hb16 | ((try clear h); subst_vars; first | exact hb16 | rfl)) ?_
          conv => arg 1; cbv
          obtain rfl := Option.some.inj h
          subst_vars
          first | exact sat_pure (.inr ⟨rfl, rfl⟩) | (refine sat_pure (.inr ⟨rfl, ?_⟩); dsimp only; simp only [ln_set]; rfl)
        · refine sat_brf (by first | exact hb16 | ((try clear h); subst_vars; first | exact hb16 | rfl)) ?_
          conv => arg 1; cbv
          obtain rfl := Option.some.inj h
          subst_vars
          first | exact sat_pure ⟨rfl, rfl, rfl⟩ | (refine sat_pure ⟨rfl, ?_, ?_⟩ <;> first | rfl | (dsimp only; simp only [ln_set]; rfl))
      · refine sat_brf (by first | exact hb9 | ((try clear h); subst_vars; first | exact hb9 | rfl)) ?_
        conv => arg 1; cbv
        obtain rfl := Option.some.inj h
        subst_vars
        first | exact sat_pure (.inl ⟨⟨_, rfl⟩, rfl⟩) | (refine sat_pure (.inl ⟨⟨_, rfl⟩, ?_⟩); dsimp only; simp only [ln_set]; rfl)
    · clear hl17
      rcases q with o18 | o19
      · dsimp only at h
        conv => arg 1; cbv
        obtain rfl := Option.some.inj h
        subst_vars
        exact sat_pure rfl
      · dsimp only at h
        conv => arg 1; cbv
        obtain rfl := Option.some.inj h
        subst_vars
        exact sat_pure rfl
set_option maxHeartbeats 4000000 in
theorem ok72 {Ω : Om} {E : Enc} (hΩ : real (call S) = Ω) (hE : theEnc = E) {fu : Nat} {a0 : Sl Field} {a1 : Sl Field} {a2 : (Field → Field → Option (Bool))} {a2_g : Nat} (hf : ∀ {x0 : Field} {x1 : Field} {r : Bool}, a2 x0 x1 = some r → ∀ {args : List PV}, [pv_Field E x0, pv_Field E x1] = args → ∀ (st : St), Sat (Ω.cf a2_g args st) (fun q => q = (PV.d (.bool r), st))) {r : Bool} (h : P72 fu a0 a1 a2 = some r) {args : List PV} (ha : [PV.d (.sl (E.L_Field a0.l) (E.X_Field a0.x)), PV.d (.sl (E.L_Field a1.l) (E.X_Field a1.x)), PV.d (.fn a2_g [])] = args) (st : St) :
    Sat (Ω.cf 72 args st) (fun q => q = (PV.d (.bool r), st)) := by
  subst ha
  rcases a0 with ⟨a0_l, a0_x⟩
  rcases a1 with ⟨a1_l, a1_x⟩
  rw [cf_body hΩ (f := 72) (fn := Try.f72) (x := c72) rfl rfl c72_ok rfl rfl]
  unfold P72 at h
  try dsimp only at h
  conv => arg 1; cbv
  refine sat_len hΩ (ro_Field hE) a0_l (by first | rfl | ((try clear h); subst_vars; rfl)) fun n1 hn2 => ?_
  conv => arg 1; cbv
  refine sat_len hΩ (ro_Field hE) a1_l (by first | rfl | ((try clear h); subst_vars; rfl)) fun n3 hn4 => ?_
  conv => arg 1; cbv
  refine sat_in hΩ ?_
  conv => arg 1; cbv
  replace h := bif_cases h
  rcases h with ⟨hb5, h⟩ | ⟨hb5, h⟩
  · refine sat_brt (by first | exact hb5 | ((try clear h); subst_vars; first | exact hb5 | rfl)) ?_
    conv => arg 1; cbv
    obtain rfl := Option.some.inj h
    subst_vars
    exact sat_pure rfl
  · refine sat_brf (by first | exact hb5 | ((try clear h); subst_vars; first | exact hb5 | rfl)) ?_
    conv => arg 1; cbv
    refine sat_len hΩ (ro_Field hE) a0_l (by first | rfl | ((try clear h); subst_vars; rfl)) fun n6 hn7 => ?_
    conv => arg 1; cbv
    obtain ⟨q, hl17, hz⟩ := Option.bind_eq_some_iff.1 h
    clear h
    have h := hz
    clear hz
    refine sat_loop hΩ (fun (a : Int) => (match a with | i8 => ([(0, PV.d (.sl (E.L_Field a0_l) (E.X_Field a0_x))), (1, PV.d (.sl (E.L_Field a1_l) (E.X_Field a1_x))), (2, PV.d (.fn a2_g [])), (6, PV.d (.bool false)), (15, PV.d (.sl (E.L_Field a0_l) (E.X_Field a0_x))), (16, PV.d (.int .i64 n6)), (17, PV.d (.int .i64 i8))], ([] : List X.Obj) :: st))) (fun (q : Int ⊕ Int) => (match q with | .inl o18 => (.exit 0, [(0, PV.d (.sl (E.L_Field a0_l) (E.X_Field a0_x))), (1, PV.d (.sl (E.L_Field a1_l) (E.X_Field a1_x))), (2, PV.d (.fn a2_g [])), (6, PV.d (.bool false)), (15, PV.d (.sl (E.L_Field a0_l) (E.X_Field a0_x))), (16, PV.d (.int .i64 n6)), (17, PV.d (.int .i64 o18))], ([] : List X.Obj) :: st) | .inr o19 => (.ret, [(0, PV.d (.sl (E.L_Field a0_l) (E.X_Field a0_x))), (1, PV.d (.sl (E.L_Field a1_l) (E.X_Field a1_x))), (2, PV.d (.fn a2_g [])), (6, PV.d (.bool false)), (15, PV.d (.sl (E.L_Field a0_l) (E.X_Field a0_x))), (16, PV.d (.int .i64 n6)), (17, PV.d (.int .i64 o19))], ([] : List X.Obj) :: st))) 0 hl17 (by first | rfl | ((try clear h); subst_vars; rfl) | ((try clear h); subst_vars; simp only [ln_set])) ?_ ?_
    · clear h hl17
      rintro i8 q h
      unfold P72_s0 at h
      dsimp only at h
      conv => arg 1; cbv
      refine sat_in hΩ ?_
      conv => arg 1; cbv
      replace h := bif_cases h
      rcases h with ⟨hb9, h⟩ | ⟨hb9, h⟩
      · refine sat_brt (by first | exact hb9 | ((try clear h); subst_vars; first | exact hb9 | rfl)) ?_
        conv => arg 1; cbv
        refine sat_true (fits_l hΩ (ro_Field hE) a0_l (by first | rfl | ((try clear h); subst_vars; rfl))) ?_
        conv => arg 1; cbv
        obtain ⟨⟨x10_Name, ⟨x10_Value__Kind, x10_Value__N, x10_Value__S, ⟨x10_Value__L_l, x10_Value__L_x⟩, ⟨x10_Value__F_l, x10_Value__F_x⟩, x10_Value__Elem, x10_Value__Key, x10_Value__HasKey⟩⟩, hx11, hz⟩ := Option.bind_eq_some_iff.1 h
        clear h
        have h := hz
        clear hz
        try dsimp only at h
        refine sat_bind (nth_ok hΩ (ro_Field hE) hx11 (by first | rfl | ((try clear h); subst_vars; rfl)) (by first | rfl | ((try clear h); subst_vars; rfl))) ?_
        conv => arg 1; cbv
        refine sat_true (fits_l hΩ (ro_Field hE) a1_l (by first | rfl | ((try clear h); subst_vars; rfl))) ?_
        conv => arg 1; cbv
        obtain ⟨⟨x12_Name, ⟨x12_Value__Kind, x12_Value__N, x12_Value__S, ⟨x12_Value__L_l, x12_Value__L_x⟩, ⟨x12_Value__F_l, x12_Value__F_x⟩, x12_Value__Elem, x12_Value__Key, x12_Value__HasKey⟩⟩, hx13, hz⟩ := Option.bind_eq_some_iff.1 h
        clear h
        have h := hz
        clear hz
        try dsimp only at h
        refine sat_bind (nth_ok hΩ (ro_Field hE) hx13 (by first | rfl | ((try clear h); subst_vars; rfl)) (by first | rfl | ((try clear h); subst_vars; rfl))) ?_
        conv => arg 1; cbv
        obtain ⟨r14, hx15, hz⟩ := Option.bind_eq_some_iff.1 h
        clear h
        have h := hz
        clear hz
        refine sat_call (hf hx15 (by (try clear h); subst_vars; rfl) _) ?_
        conv => arg 1; cbv
        refine sat_in hΩ ?_
        conv => arg 1; cbv
        replace h := bif_cases h
        rcases h with ⟨hb16, h⟩ | ⟨hb16, h⟩
        · refine sat_brt (by first | exact hb16 | ((try clear h); subst_vars; first | exact hb16 | rfl)) ?_
          conv => arg 1; cbv
          obtain rfl := Option.some.inj h
          subst_vars
          first | exact sat_pure (.inr ⟨rfl, rfl⟩) | (refine sat_pure (.inr ⟨rfl, ?_⟩); dsimp only; simp only [ln_set]; rfl)
        · refine sat_brf (by first | exact hb16 | ((try clear h); subst_vars; first | exact hb16 | rfl)) ?_
          conv => arg 1; cbv
          obtain rfl := Option.some.inj h
          subst_vars
          first | exact sat_pure ⟨rfl, rfl, rfl⟩ | (refine sat_pure ⟨rfl, ?_, ?_⟩ <;> first | rfl | (dsimp only; simp only [ln_set]; rfl))
      · refine sat_brf (by first | exact hb9 | ((try clear h); subst_vars; first | exact hb9 | rfl)) ?_
        conv => arg 1; cbv
        obtain rfl := Option.some.inj h
        subst_vars
        first | exact sat_pure (.inl ⟨⟨_, rfl⟩, rfl⟩) | (refine sat_pure (.inl ⟨⟨_, rfl⟩, ?_⟩); dsimp only; simp only [ln_set]; rfl)
    · clear hl17
      rcases q with o18 | o19
      · dsimp only at h
        conv => arg 1; cbv
        obtain rfl := Option.some.inj h
        subst_vars
        exact sat_pure rfl
      · dsimp only at h
        conv => arg 1; cbv
        obtain rfl := Option.some.inj h
        subst_vars
        exact sat_pure rfl
set_option maxHeartbeats 4000000 in
theorem okb32 {Ω : Om} {E : Enc} (hΩ : real (call S) = Ω) (hE : theEnc = E) {fu : Nat} {p32 : Value → Value → Option (Bool)} (hp32 : ∀ {a0 : Value} {a1 : Value} {r : Bool}, p32 a0 a1 = some r → ∀ {args : List PV}, [pv_Value E a0, pv_Value E a1] = args → ∀ (st : St), Sat (Ω.cf 32 args st) (fun q => q = (PV.d (.bool r), st))) {p55 : (Sl Field) → (Sl Field) → Option (Bool)} (hp55 : ∀ {a0 : Sl Field} {a1 : Sl Field} {r : Bool}, p55 a0 a1 = some r → ∀ {args : List PV}, [PV.d (.sl (E.L_Field a0.l) (E.X_Field a0.x)), PV.d (.sl (E.L_Field a1.l) (E.X_Field a1.x))] = args → ∀ (st : St), Sat (Ω.cf 55 args st) (fun q => q = (PV.d (.bool r), st))) {p73 : Field → Field → Option (Bool)} (hp73 : ∀ {a0 : Field} {a1 : Field} {r : Bool}, p73 a0 a1 = some r → ∀ {args : List PV}, [pv_Field E a0, pv_Field E a1] = args → ∀ (st : St), Sat (Ω.cf 73 args st) (fun q => q = (PV.d (.bool r), st))) {a0 : Value} {a1 : Value} {r : Bool} (h : Pb32 fu p32 p55 p73 a0 a1 = some r) {args : List PV} (ha : [pv_Value E a0, pv_Value E a1] = args) (st : St) :
    Sat (Ω.cf 32 args st) (fun q => q = (PV.d (.bool r), st)) := by
  subst ha
  rcases a0 with ⟨a0_Kind, a0_N, a0_S, ⟨a0_L_l, a0_L_x⟩, ⟨a0_F_l, a0_F_x⟩, a0_Elem, a0_Key, a0_HasKey⟩
  rcases a1 with ⟨a1_Kind, a1_N, a1_S, ⟨a1_L_l, a1_L_x⟩, ⟨a1_F_l, a1_F_x⟩, a1_Elem, a1_Key, a1_HasKey⟩
  rw [cf_body hΩ (f := 32) (fn := Try.f32) (x := c32) rfl rfl c32_ok rfl rfl]
  unfold Pb32 at h
  try dsimp only at h
  conv => arg 1; cbv
  obtain ⟨q, hq13, hz⟩ := Option.bind_eq_some_iff.1 h
  clear h
  have h := hz
  clear hz
  refine sat_grp hΩ ((fun (q : Bool) => (match q with | i12 => ([(0, PV.agg [.d (.int .u8 a0_Kind), .d (.int .i64 a0_N), .d (.str a0_S), .d (.sl (E.L_Value a0_L_l) (E.X_Value a0_L_x)), .d (.sl (E.L_Field a0_F_l) (E.X_Field a0_F_x)), .d (.int .u8 a0_Elem), .d (.str a0_Key), .d (.bool a0_HasKey)]), (1, PV.agg [.d (.int .u8 a1_Kind), .d (.int .i64 a1_N), .d (.str a1_S), .d (.sl (E.L_Value a1_L_l) (E.X_Value a1_L_x)), .d (.sl (E.L_Field a1_F_l) (E.X_Field a1_F_x)), .d (.int .u8 a1_Elem), .d (.str a1_Key), .d (.bool a1_HasKey)]), (2, PV.ptr 0 0 0), (3, PV.ptr 0 1 0), (4, PV.d (.bool i12))], ([X.Obj.box 27 [.d (.int .u8 a0_Kind), .d (.int .i64 a0_N), .d (.str a0_S), .d (.sl (E.L_Value a0_L_l) (E.X_Value a0_L_x)), .d (.sl (E.L_Field a0_F_l) (E.X_Field a0_F_x)), .d (.int .u8 a0_Elem), .d (.str a0_Key), .d (.bool a0_HasKey)], X.Obj.box 27 [.d (.int .u8 a1_Kind), .d (.int .i64 a1_N), .d (.str a1_S), .d (.sl (E.L_Value a1_L_l) (E.X_Value a1_L_x)), .d (.sl (E.L_Field a1_F_l) (E.X_Field a1_F_x)), .d (.int .u8 a1_Elem), .d (.str a1_Key), .d (.bool a1_HasKey)]] : List X.Obj) :: st))) q) (fun k hk => ?_) ?_
  · clear h
    have h := hq13
    clear hq13
    conv => arg 1; cbv
    replace h := bif_cases h
    rcases h with ⟨hb1, h⟩ | ⟨hb1, h⟩
    · refine sat_brt (by first | exact hb1 | ((try clear h); subst_vars; first | exact hb1 | rfl)) ?_
      conv => arg 1; cbv
      refine sat_tick hΩ ?_
      conv => arg 1; cbv
      replace h := bif_cases h
      rcases h with ⟨hb2, h⟩ | ⟨hb2, h⟩
      · refine sat_brt (by first | exact hb2 | ((try clear h); subst_vars; first | exact hb2 | rfl)) ?_
        conv => arg 1; cbv
        replace h := bif_cases h
        rcases h with ⟨hb3, h⟩ | ⟨hb3, h⟩
        · refine sat_brt (by first | exact hb3 | ((try clear h); subst_vars; first | exact hb3 | rfl)) ?_
          conv => arg 1; cbv
          refine sat_tick hΩ ?_
          conv => arg 1; cbv
          replace h := bif_cases h
          rcases h with ⟨hb4, h⟩ | ⟨hb4, h⟩
          · refine sat_brt (by first | exact hb4 | ((try clear h); subst_vars; first | exact hb4 | rfl)) ?_
            conv => arg 1; cbv
            replace h := bif_cases h
            rcases h with ⟨hb5, h⟩ | ⟨hb5, h⟩
            · refine sat_brt (by first | exact hb5 | ((try clear h); subst_vars; first | exact hb5 | rfl)) ?_
              conv => arg 1; cbv
              refine sat_tick hΩ ?_
              conv => arg 1; cbv
              replace h := bif_cases h
              rcases h with ⟨hb6, h⟩ | ⟨hb6, h⟩
              · refine sat_brt (by first | exact hb6 | ((try clear h); subst_vars; first | exact hb6 | rfl)) ?_
                conv => arg 1; cbv
                obtain ⟨r7, hx8, hz⟩ := Option.bind_eq_some_iff.1 h
                clear h
                have h := hz
                clear hz
                refine sat_call (ok36 hΩ hE (hf := fun h => @fun args ha st => hp32 h ha st) hx8 (by (try clear h); subst_vars; rfl) _) ?_
                conv => arg 1; cbv
                refine sat_tick hΩ ?_
                conv => arg 1; cbv
                replace h := bif_cases h
                rcases h with ⟨hb9, h⟩ | ⟨hb9, h⟩
                · refine sat_brt (by first | exact hb9 | ((try clear h); subst_vars; first | exact hb9 | rfl)) ?_
                  conv => arg 1; cbv
                  obtain ⟨r10, hx11, hz⟩ := Option.bind_eq_some_iff.1 h
                  clear h
                  have h := hz
                  clear hz
                  refine sat_call (hp55 hx11 (by (try clear h); subst_vars; rfl) _) ?_
                  conv => arg 1; cbv
                  obtain rfl := Option.some.inj h
                  subst_vars
                  first | exact hk | (simp only [ln_set] at hk ⊢; exact hk)
                · refine sat_brf (by first | exact hb9 | ((try clear h); subst_vars; first | exact hb9 | rfl)) ?_
                  conv => arg 1; cbv
                  obtain rfl := Option.some.inj h
                  subst_vars
                  first | exact hk | (simp only [ln_set] at hk ⊢; exact hk)
              · refine sat_brf (by first | exact hb6 | ((try clear h); subst_vars; first | exact hb6 | rfl)) ?_
                conv => arg 1; cbv
                refine sat_tick hΩ ?_
                conv => arg 1; cbv
                obtain rfl := Option.some.inj h
                subst_vars
                first | exact hk | (simp only [ln_set] at hk ⊢; exact hk)
            · refine sat_brf (by first | exact hb5 | ((try clear h); subst_vars; first | exact hb5 | rfl)) ?_
              conv => arg 1; cbv
              refine sat_tick hΩ ?_
              conv => arg 1; cbv
              refine sat_tick hΩ ?_
              conv => arg 1; cbv
              obtain rfl := Option.some.inj h
              subst_vars
              first | exact hk | (simp only [ln_set] at hk ⊢; exact hk)
          · refine sat_brf (by first | exact hb4 | ((try clear h); subst_vars; first | exact hb4 | rfl)) ?_
            conv => arg 1; cbv
            refine sat_tick hΩ ?_
            conv => arg 1; cbv
            refine sat_tick hΩ ?_
            conv => arg 1; cbv
            obtain rfl := Option.some.inj h
            subst_vars
            first | exact hk | (simp only [ln_set] at hk ⊢; exact hk)
        · refine sat_brf (by first | exact hb3 | ((try clear h); subst_vars; first | exact hb3 | rfl)) ?_
          conv => arg 1; cbv
          refine sat_tick hΩ ?_
          conv => arg 1; cbv
          refine sat_tick hΩ ?_
          conv => arg 1; cbv
          refine sat_tick hΩ ?_
          conv => arg 1; cbv
          obtain rfl := Option.some.inj h
          subst_vars
          first | exact hk | (simp only [ln_set] at hk ⊢; exact hk)
      · refine sat_brf (by first | exact hb2 | ((try clear h); subst_vars; first | exact hb2 | rfl)) ?_
        conv => arg 1; cbv
        refine sat_tick hΩ ?_
        conv => arg 1; cbv
        refine sat_tick hΩ ?_
        conv => arg 1; cbv
        refine sat_tick hΩ ?_
        conv => arg 1; cbv
        obtain rfl := Option.some.inj h
        subst_vars
        first | exact hk | (simp only [ln_set] at hk ⊢; exact hk)
    · refine sat_brf (by first | exact hb1 | ((try clear h); subst_vars; first | exact hb1 | rfl)) ?_
      conv => arg 1; cbv
      refine sat_tick hΩ ?_
      conv => arg 1; cbv
      refine sat_tick hΩ ?_
      conv => arg 1; cbv
      refine sat_tick hΩ ?_
      conv => arg 1; cbv
      refine sat_tick hΩ ?_
      conv => arg 1; cbv
      obtain rfl := Option.some.inj h
      subst_vars
      first | exact hk | (simp only [ln_set] at hk ⊢; exact hk)
  · clear hq13
    obtain ⟨i12, hqq⟩ : ∃ x, x = q := ⟨_, rfl⟩
    subst hqq
    try dsimp only at h
    conv => arg 1; cbv
    obtain rfl := Option.some.inj h
    subst_vars
    exact sat_pure rfl
set_option maxHeartbeats 4000000 in
theorem okb55 {Ω : Om} {E : Enc} (hΩ : real (call S) = Ω) (hE : theEnc = E) {fu : Nat} {p32 : Value → Value → Option (Bool)} (hp32 : ∀ {a0 : Value} {a1 : Value} {r : Bool}, p32 a0 a1 = some r → ∀ {args : List PV}, [pv_Value E a0, pv_Value E a1] = args → ∀ (st : St), Sat (Ω.cf 32 args st) (fun q => q = (PV.d (.bool r), st))) {p55 : (Sl Field) → (Sl Field) → Option (Bool)} (hp55 : ∀ {a0 : Sl Field} {a1 : Sl Field} {r : Bool}, p55 a0 a1 = some r → ∀ {args : List PV}, [PV.d (.sl (E.L_Field a0.l) (E.X_Field a0.x)), PV.d (.sl (E.L_Field a1.l) (E.X_Field a1.x))] = args → ∀ (st : St), Sat (Ω.cf 55 args st) (fun q => q = (PV.d (.bool r), st))) {p73 : Field → Field → Option (Bool)} (hp73 : ∀ {a0 : Field} {a1 : Field} {r : Bool}, p73 a0 a1 = some r → ∀ {args : List PV}, [pv_Field E a0, pv_Field E a1] = args → ∀ (st : St), Sat (Ω.cf 73 args st) (fun q => q = (PV.d (.bool r), st))) {a0 : Sl Field} {a1 : Sl Field} {r : Bool} (h : Pb55 fu p32 p55 p73 a0 a1 = some r) {args : List PV} (ha : [PV.d (.sl (E.L_Field a0.l) (E.X_Field a0.x)), PV.d (.sl (E.L_Field a1.l) (E.X_Field a1.x))] = args) (st : St) :
    Sat (Ω.cf 55 args st) (fun q => q = (PV.d (.bool r), st)) := by
  subst ha
  rcases a0 with ⟨a0_l, a0_x⟩
  rcases a1 with ⟨a1_l, a1_x⟩
  rw [cf_body hΩ (f := 55) (fn := Try.f55) (x := c55) rfl rfl c55_ok rfl rfl]
  unfold Pb55 at h
  try dsimp only at h
  conv => arg 1; cbv
  obtain ⟨r1, hx2, hz⟩ := Option.bind_eq_some_iff.1 h
  clear h
  have h := hz
  clear hz
  refine sat_call (ok72 hΩ hE (hf := fun h => @fun args ha st => hp73 h ha st) hx2 (by (try clear h); subst_vars; rfl) _) ?_
  conv => arg 1; cbv
  obtain rfl := Option.some.inj h
  subst_vars
  exact sat_pure rfl
set_option maxHeartbeats 4000000 in
theorem okb73 {Ω : Om} {E : Enc} (hΩ : real (call S) = Ω) (hE : theEnc = E) {fu : Nat} {p32 : Value → Value → Option (Bool)} (hp32 : ∀ {a0 : Value} {a1 : Value} {r : Bool}, p32 a0 a1 = some r → ∀ {args : List PV}, [pv_Value E a0, pv_Value E a1] = args → ∀ (st : St), Sat (Ω.cf 32 args st) (fun q => q = (PV.d (.bool r), st))) {p55 : (Sl Field) → (Sl Field) → Option (Bool)} (hp55 : ∀ {a0 : Sl Field} {a1 : Sl Field} {r : Bool}, p55 a0 a1 = some r → ∀ {args : List PV}, [PV.d (.sl (E.L_Field a0.l) (E.X_Field a0.x)), PV.d (.sl (E.L_Field a1.l) (E.X_Field a1.x))] = args → ∀ (st : St), Sat (Ω.cf 55 args st) (fun q => q = (PV.d (.bool r), st))) {p73 : Field → Field → Option (Bool)} (hp73 : ∀ {a0 : Field} {a1 : Field} {r : Bool}, p73 a0 a1 = some r → ∀ {args : List PV}, [pv_Field E a0, pv_Field E a1] = args → ∀ (st : St), Sat (Ω.cf 73 args st) (fun q => q = (PV.d (.bool r), st))) {a0 : Field} {a1 : Field} {r : Bool} (h : Pb73 fu p32 p55 p73 a0 a1 = some r) {args : List PV} (ha : [pv_Field E a0, pv_Field E a1] = args) (st : St) :
    Sat (Ω.cf 73 args st) (fun q => q = (PV.d (.bool r), st)) := by
  subst ha
  rcases a0 with ⟨a0_Name, ⟨a0_Value__Kind, a0_Value__N, a0_Value__S, ⟨a0_Value__L_l, a0_Value__L_x⟩, ⟨a0_Value__F_l, a0_Value__F_x⟩, a0_Value__Elem, a0_Value__Key, a0_Value__HasKey⟩⟩
  rcases a1 with ⟨a1_Name, ⟨a1_Value__Kind, a1_Value__N, a1_Value__S, ⟨a1_Value__L_l, a1_Value__L_x⟩, ⟨a1_Value__F_l, a1_Value__F_x⟩, a1_Value__Elem, a1_Value__Key, a1_Value__HasKey⟩⟩
  rw [cf_body hΩ (f := 73) (fn := Try.f73) (x := c73) rfl rfl c73_ok rfl rfl]
  unfold Pb73 at h
  try dsimp only at h
  conv => arg 1; cbv
  obtain ⟨q, hq5, hz⟩ := Option.bind_eq_some_iff.1 h
  clear h
  have h := hz
  clear hz
  refine sat_grp hΩ ((fun (q : Bool) => (match q with | i4 => ([(0, PV.agg [.d (.str a0_Name), .d (.int .u8 a0_Value__Kind), .d (.int .i64 a0_Value__N), .d (.str a0_Value__S), .d (.sl (E.L_Value a0_Value__L_l) (E.X_Value a0_Value__L_x)), .d (.sl (E.L_Field a0_Value__F_l) (E.X_Field a0_Value__F_x)), .d (.int .u8 a0_Value__Elem), .d (.str a0_Value__Key), .d (.bool a0_Value__HasKey)]), (1, PV.agg [.d (.str a1_Name), .d (.int .u8 a1_Value__Kind), .d (.int .i64 a1_Value__N), .d (.str a1_Value__S), .d (.sl (E.L_Value a1_Value__L_l) (E.X_Value a1_Value__L_x)), .d (.sl (E.L_Field a1_Value__F_l) (E.X_Field a1_Value__F_x)), .d (.int .u8 a1_Value__Elem), .d (.str a1_Value__Key), .d (.bool a1_Value__HasKey)]), (2, PV.ptr 0 0 0), (3, PV.ptr 0 1 0), (4, PV.d (.bool i4))], ([X.Obj.box 49 [.d (.str a0_Name), .d (.int .u8 a0_Value__Kind), .d (.int .i64 a0_Value__N), .d (.str a0_Value__S), .d (.sl (E.L_Value a0_Value__L_l) (E.X_Value a0_Value__L_x)), .d (.sl (E.L_Field a0_Value__F_l) (E.X_Field a0_Value__F_x)), .d (.int .u8 a0_Value__Elem), .d (.str a0_Value__Key), .d (.bool a0_Value__HasKey)], X.Obj.box 49 [.d (.str a1_Name), .d (.int .u8 a1_Value__Kind), .d (.int .i64 a1_Value__N), .d (.str a1_Value__S), .d (.sl (E.L_Value a1_Value__L_l) (E.X_Value a1_Value__L_x)), .d (.sl (E.L_Field a1_Value__F_l) (E.X_Field a1_Value__F_x)), .d (.int .u8 a1_Value__Elem), .d (.str a1_Value__Key), .d (.bool a1_Value__HasKey)]] : List X.Obj) :: st))) q) (fun k hk => ?_) ?_
  · clear h
    have h := hq5
    clear hq5
    conv => arg 1; cbv
    replace h := bif_cases h
    rcases h with ⟨hb1, h⟩ | ⟨hb1, h⟩
    · refine sat_brt (by first | exact hb1 | ((try clear h); subst_vars; first | exact hb1 | rfl)) ?_
      conv => arg 1; cbv
      obtain ⟨r2, hx3, hz⟩ := Option.bind_eq_some_iff.1 h
      clear h
      have h := hz
      clear hz
      refine sat_call (hp32 hx3 (by (try clear h); subst_vars; rfl) _) ?_
      conv => arg 1; cbv
      refine sat_tick hΩ ?_
      conv => arg 1; cbv
      obtain rfl := Option.some.inj h
      subst_vars
      first | exact hk | (simp only [ln_set] at hk ⊢; exact hk)
    · refine sat_brf (by first | exact hb1 | ((try clear h); subst_vars; first | exact hb1 | rfl)) ?_
      conv => arg 1; cbv
      refine sat_tick hΩ ?_
      conv => arg 1; cbv
      obtain rfl := Option.some.inj h
      subst_vars
      first | exact hk | (simp only [ln_set] at hk ⊢; exact hk)
  · clear hq5
    obtain ⟨i4, hqq⟩ : ∃ x, x = q := ⟨_, rfl⟩
    subst hqq
    try dsimp only at h
    conv => arg 1; cbv
    obtain rfl := Option.some.inj h
    subst_vars
    exact sat_pure rfl
theorem okr32 {Ω : Om} {E : Enc} (hΩ : real (call S) = Ω) (hE : theEnc = E) : ∀ fu,
    (∀ {a0 : Value} {a1 : Value} {r : Bool}, P32 fu a0 a1 = some r → ∀ {args : List PV}, [pv_Value E a0, pv_Value E a1] = args → ∀ (st : St), Sat (Ω.cf 32 args st) (fun q => q = (PV.d (.bool r), st))) ∧
    (∀ {a0 : Sl Field} {a1 : Sl Field} {r : Bool}, P55 fu a0 a1 = some r → ∀ {args : List PV}, [PV.d (.sl (E.L_Field a0.l) (E.X_Field a0.x)), PV.d (.sl (E.L_Field a1.l) (E.X_Field a1.x))] = args → ∀ (st : St), Sat (Ω.cf 55 args st) (fun q => q = (PV.d (.bool r), st))) ∧
    (∀ {a0 : Field} {a1 : Field} {r : Bool}, P73 fu a0 a1 = some r → ∀ {args : List PV}, [pv_Field E a0, pv_Field E a1] = args → ∀ (st : St), Sat (Ω.cf 73 args st) (fun q => q = (PV.d (.bool r), st))) := by
  intro fu
  induction fu with
  | zero => exact ⟨(fun h => (by cases h)), (fun h => (by cases h)), (fun h => (by cases h))⟩
  | succ fu ih =>
    obtain ⟨i32, i55, i73⟩ := ih
    exact ⟨(fun h => @fun args ha st => okb32 (fu := fu) hΩ hE i32 i55 i73 h ha st), (fun h => @fun args ha st => okb55 (fu := fu) hΩ hE i32 i55 i73 h ha st), (fun h => @fun args ha st => okb73 (fu := fu) hΩ hE i32 i55 i73 h ha st)⟩
theorem ok32 {Ω : Om} {E : Enc} (hΩ : real (call S) = Ω) (hE : theEnc = E) {fu : Nat} : ∀ {a0 : Value} {a1 : Value} {r : Bool}, P32 fu a0 a1 = some r → ∀ {args : List PV}, [pv_Value E a0, pv_Value E a1] = args → ∀ (st : St), Sat (Ω.cf 32 args st) (fun q => q = (PV.d (.bool r), st)) := (okr32 hΩ hE fu).1
theorem ok55 {Ω : Om} {E : Enc} (hΩ : real (call S) = Ω) (hE : theEnc = E) {fu : Nat} : ∀ {a0 : Sl Field} {a1 : Sl Field} {r : Bool}, P55 fu a0 a1 = some r → ∀ {args : List PV}, [PV.d (.sl (E.L_Field a0.l) (E.X_Field a0.x)), PV.d (.sl (E.L_Field a1.l) (E.X_Field a1.x))] = args → ∀ (st : St), Sat (Ω.cf 55 args st) (fun q => q = (PV.d (.bool r), st)) := (okr32 hΩ hE fu).2.1
theorem ok73 {Ω : Om} {E : Enc} (hΩ : real (call S) = Ω) (hE : theEnc = E) {fu : Nat} : ∀ {a0 : Field} {a1 : Field} {r : Bool}, P73 fu a0 a1 = some r → ∀ {args : List PV}, [pv_Field E a0, pv_Field E a1] = args → ∀ (st : St), Sat (Ω.cf 73 args st) (fun q => q = (PV.d (.bool r), st)) := (okr32 hΩ hE fu).2.2
set_option maxHeartbeats 4000000 in
theorem ok14 {Ω : Om} {E : Enc} (hΩ : real (call S) = Ω) (hE : theEnc = E) {fu : Nat} {a0 : Sl Value} {a1 : Sl Value} {r : Bool} (h : P14 fu a0 a1 = some r) {args : List PV} (ha : [PV.d (.sl (E.L_Value a0.l) (E.X_Value a0.x)), PV.d (.sl (E.L_Value a1.l) (E.X_Value a1.x))] = args) (st : St) :
    Sat (Ω.cf 14 args st) (fun q => q = (PV.d (.bool r), st)) := by
  subst ha
  rcases a0 with ⟨a0_l, a0_x⟩
  rcases a1 with ⟨a1_l, a1_x⟩
  rw [cf_body hΩ (f := 14) (fn := Try.f14) (x := c14) rfl rfl c14_ok rfl rfl]
  unfold P14 at h
  try dsimp only at h
  conv => arg 1; cbv
  obtain ⟨r1, hx2, hz⟩ := Option.bind_eq_some_iff.1 h
  clear h
  have h := hz
  clear hz
  refine sat_call (ok36 hΩ hE (hf := fun h => @fun args ha st => ok32 hΩ hE h ha st) hx2 (by (try clear h); subst_vars; rfl) _) ?_
  conv => arg 1; cbv
  obtain rfl := Option.some.inj h
  subst_vars
  exact sat_pure rfl
set_option maxHeartbeats 4000000 in
theorem okb33 {Ω : Om} {E : Enc} (hΩ : real (call S) = Ω) (hE : theEnc = E) {fu : Nat} {p33 : Value → Value → Option (Bool)} (hp33 : ∀ {a0 : Value} {a1 : Value} {r : Bool}, p33 a0 a1 = some r → ∀ {args : List PV}, [pv_Value E a0, pv_Value E a1] = args → ∀ (st : St), Sat (Ω.cf 33 args st) (fun q => q = (PV.d (.bool r), st))) {p56 : (Sl Field) → (Sl Field) → Option (Bool)} (hp56 : ∀ {a0 : Sl Field} {a1 : Sl Field} {r : Bool}, p56 a0 a1 = some r → ∀ {args : List PV}, [PV.d (.sl (E.L_Field a0.l) (E.X_Field a0.x)), PV.d (.sl (E.L_Field a1.l) (E.X_Field a1.x))] = args → ∀ (st : St), Sat (Ω.cf 56 args st) (fun q => q = (PV.d (.bool r), st))) {a0 : Value} {a1 : Value} {r : Bool} (h : Pb33 fu p33 p56 a0 a1 = some r) {args : List PV} (ha : [pv_Value E a0, pv_Value E a1] = args) (st : St) :
    Sat (Ω.cf 33 args st) (fun q => q = (PV.d (.bool r), st)) := by
  subst ha
  rcases a0 with ⟨a0_Kind, a0_N, a0_S, ⟨a0_L_l, a0_L_x⟩, ⟨a0_F_l, a0_F_x⟩, a0_Elem, a0_Key, a0_HasKey⟩
  rcases a1 with ⟨a1_Kind, a1_N, a1_S, ⟨a1_L_l, a1_L_x⟩, ⟨a1_F_l, a1_F_x⟩, a1_Elem, a1_Key, a1_HasKey⟩
  rw [cf_body hΩ (f := 33) (fn := Try.f33) (x := c33) rfl rfl c33_ok rfl rfl]
  unfold Pb33 at h
  try dsimp only at h
  conv => arg 1; cbv
  obtain ⟨q, hq29, hz⟩ := Option.bind_eq_some_iff.1 h
  clear h
  have h := hz
  clear hz
  refine sat_grp hΩ ((fun (q : Bool) => (match q with | i11 => ([(0, PV.agg [.d (.int .u8 a0_Kind), .d (.int .i64 a0_N), .d (.str a0_S), .d (.sl (E.L_Value a0_L_l) (E.X_Value a0_L_x)), .d (.sl (E.L_Field a0_F_l) (E.X_Field a0_F_x)), .d (.int .u8 a0_Elem), .d (.str a0_Key), .d (.bool a0_HasKey)]), (1, PV.agg [.d (.int .u8 a1_Kind), .d (.int .i64 a1_N), .d (.str a1_S), .d (.sl (E.L_Value a1_L_l) (E.X_Value a1_L_x)), .d (.sl (E.L_Field a1_F_l) (E.X_Field a1_F_x)), .d (.int .u8 a1_Elem), .d (.str a1_Key), .d (.bool a1_HasKey)]), (2, PV.ptr 0 0 0), (3, PV.ptr 0 1 0), (4, PV.d (.bool false)), (54, PV.d (.bool i11))], ([X.Obj.box 27 [.d (.int .u8 a0_Kind), .d (.int .i64 a0_N), .d (.str a0_S), .d (.sl (E.L_Value a0_L_l) (E.X_Value a0_L_x)), .d (.sl (E.L_Field a0_F_l) (E.X_Field a0_F_x)), .d (.int .u8 a0_Elem), .d (.str a0_Key), .d (.bool a0_HasKey)], X.Obj.box 27 [.d (.int .u8 a1_Kind), .d (.int .i64 a1_N), .d (.str a1_S), .d (.sl (E.L_Value a1_L_l) (E.X_Value a1_L_x)), .d (.sl (E.L_Field a1_F_l) (E.X_Field a1_F_x)), .d (.int .u8 a1_Elem), .d (.str a1_Key), .d (.bool a1_HasKey)]] : List X.Obj) :: st))) q) (fun k hk => ?_) ?_
  · clear h
    have h := hq29
    clear hq29
    conv => arg 1; cbv
    replace h := bif_cases h
    rcases h with ⟨hb1, h⟩ | ⟨hb1, h⟩
    · refine sat_brt (by first | exact hb1 | ((try clear h); subst_vars; first | exact hb1 | rfl)) ?_
      conv => arg 1; cbv
      refine sat_tick hΩ ?_
      conv => arg 1; cbv
      replace h := bif_cases h
      rcases h with ⟨hb2, h⟩ | ⟨hb2, h⟩
      · refine sat_brt (by first | exact hb2 | ((try clear h); subst_vars; first | exact hb2 | rfl)) ?_
        conv => arg 1; cbv
        replace h := bif_cases h
        rcases h with ⟨hb3, h⟩ | ⟨hb3, h⟩
        · refine sat_brt (by first | exact hb3 | ((try clear h); subst_vars; first | exact hb3 | rfl)) ?_
          conv => arg 1; cbv
          refine sat_tick hΩ ?_
          conv => arg 1; cbv
          replace h := bif_cases h
          rcases h with ⟨hb4, h⟩ | ⟨hb4, h⟩
          · refine sat_brt (by first | exact hb4 | ((try clear h); subst_vars; first | exact hb4 | rfl)) ?_
            conv => arg 1; cbv
            replace h := bif_cases h
            rcases h with ⟨hb5, h⟩ | ⟨hb5, h⟩
            · refine sat_brt (by first | exact hb5 | ((try clear h); subst_vars; first | exact hb5 | rfl)) ?_
              conv => arg 1; cbv
              refine sat_tick hΩ ?_
              conv => arg 1; cbv
              replace h := bif_cases h
              rcases h with ⟨hb6, h⟩ | ⟨hb6, h⟩
              · refine sat_brt (by first | exact hb6 | ((try clear h); subst_vars; first | exact hb6 | rfl)) ?_
                conv => arg 1; cbv
                refine sat_len hΩ (ro_Value hE) a0_L_l (by first | rfl | ((try clear h); subst_vars; rfl)) fun n7 hn8 => ?_
                conv => arg 1; cbv
                refine sat_len hΩ (ro_Value hE) a1_L_l (by first | rfl | ((try clear h); subst_vars; rfl)) fun n9 hn10 => ?_
                conv => arg 1; cbv
                refine sat_tick hΩ ?_
                conv => arg 1; cbv
                obtain rfl := Option.some.inj h
                subst_vars
                first | exact hk | (simp only [ln_set] at hk ⊢; exact hk)
              · refine sat_brf (by first | exact hb6 | ((try clear h); subst_vars; first | exact hb6 | rfl)) ?_
                conv => arg 1; cbv
                refine sat_tick hΩ ?_
                conv => arg 1; cbv
                obtain rfl := Option.some.inj h
                subst_vars
                first | exact hk | (simp only [ln_set] at hk ⊢; exact hk)
            · refine sat_brf (by first | exact hb5 | ((try clear h); subst_vars; first | exact hb5 | rfl)) ?_
              conv => arg 1; cbv
              refine sat_tick hΩ ?_
              conv => arg 1; cbv
              refine sat_tick hΩ ?_
              conv => arg 1; cbv
              obtain rfl := Option.some.inj h
              subst_vars
              first | exact hk | (simp only [ln_set] at hk ⊢; exact hk)
          · refine sat_brf (by first | exact hb4 | ((try clear h); subst_vars; first | exact hb4 | rfl)) ?_
            conv => arg 1; cbv
            refine sat_tick hΩ ?_
            conv => arg 1; cbv
            refine sat_tick hΩ ?_
            conv => arg 1; cbv
            obtain rfl := Option.some.inj h
            subst_vars
            first | exact hk | (simp only [ln_set] at hk ⊢; exact hk)
        · refine sat_brf (by first | exact hb3 | ((try clear h); subst_vars; first | exact hb3 | rfl)) ?_
          conv => arg 1; cbv
          refine sat_tick hΩ ?_
          conv => arg 1; cbv
          refine sat_tick hΩ ?_
          conv => arg 1; cbv
          refine sat_tick hΩ ?_
          conv => arg 1; cbv
          obtain rfl := Option.some.inj h
          subst_vars
          first | exact hk | (simp only [ln_set] at hk ⊢; exact hk)
      · refine sat_brf (by first | exact hb2 | ((try clear h); subst_vars; first | exact hb2 | rfl)) ?_
        conv => arg 1; cbv
        refine sat_tick hΩ ?_
        conv => arg 1; cbv
        refine sat_tick hΩ ?_
        conv => arg 1; cbv
        refine sat_tick hΩ ?_
        conv => arg 1; cbv
        obtain rfl := Option.some.inj h
        subst_vars
        first | exact hk | (simp only [ln_set] at hk ⊢; exact hk)
    · refine sat_brf (by first | exact hb1 | ((try clear h); subst_vars; first | exact hb1 | rfl)) ?_
      conv => arg 1; cbv
      refine sat_tick hΩ ?_
      conv => arg 1; cbv
      refine sat_tick hΩ ?_
      conv => arg 1; cbv
      refine sat_tick hΩ ?_
      conv => arg 1; cbv
      refine sat_tick hΩ ?_
      conv => arg 1; cbv
      obtain rfl := Option.some.inj h
      subst_vars
      first | exact hk | (simp only [ln_set] at hk ⊢; exact hk)
  · clear hq29
    obtain ⟨i11, hqq⟩ : ∃ x, x = q := ⟨_, rfl⟩
    subst hqq
    try dsimp only at h
    conv => arg 1; cbv
    refine sat_in hΩ ?_
    conv => arg 1; cbv
    replace h := bif_cases h
    rcases h with ⟨hb12, h⟩ | ⟨hb12, h⟩
    · refine sat_brt (by first | exact hb12 | ((try clear h); subst_vars; first | exact hb12 | rfl)) ?_
      conv => arg 1; cbv
      obtain rfl := Option.some.inj h
      subst_vars
      exact sat_pure rfl
    · refine sat_brf (by first | exact hb12 | ((try clear h); subst_vars; first | exact hb12 | rfl)) ?_
      conv => arg 1; cbv
      obtain ⟨q, hl24, hz⟩ := Option.bind_eq_some_iff.1 h
      clear h
      have h := hz
      clear hz
      refine sat_loop hΩ (fun (a : Int) => (match a with | i13 => ([(0, PV.agg [.d (.int .u8 a0_Kind), .d (.int .i64 a0_N), .d (.str a0_S), .d (.sl (E.L_Value a0_L_l) (E.X_Value a0_L_x)), .d (.sl (E.L_Field a0_F_l) (E.X_Field a0_F_x)), .d (.int .u8 a0_Elem), .d (.str a0_Key), .d (.bool a0_HasKey)]), (1, PV.agg [.d (.int .u8 a1_Kind), .d (.int .i64 a1_N), .d (.str a1_S), .d (.sl (E.L_Value a1_L_l) (E.X_Value a1_L_x)), .d (.sl (E.L_Field a1_F_l) (E.X_Field a1_F_x)), .d (.int .u8 a1_Elem), .d (.str a1_Key), .d (.bool a1_HasKey)]), (2, PV.ptr 0 0 0), (3, PV.ptr 0 1 0), (4, PV.d (.bool false)), (5, PV.d (.int .i64 i13))], ([X.Obj.box 27 [.d (.int .u8 a0_Kind), .d (.int .i64 a0_N), .d (.str a0_S), .d (.sl (E.L_Value a0_L_l) (E.X_Value a0_L_x)), .d (.sl (E.L_Field a0_F_l) (E.X_Field a0_F_x)), .d (.int .u8 a0_Elem), .d (.str a0_Key), .d (.bool a0_HasKey)], X.Obj.box 27 [.d (.int .u8 a1_Kind), .d (.int .i64 a1_N), .d (.str a1_S), .d (.sl (E.L_Value a1_L_l) (E.X_Value a1_L_x)), .d (.sl (E.L_Field a1_F_l) (E.X_Field a1_F_x)), .d (.int .u8 a1_Elem), .d (.str a1_Key), .d (.bool a1_HasKey)]] : List X.Obj) :: st))) (fun (q : Int ⊕ Int) => (match q with | .inl o25 => (.exit 0, [(0, PV.agg [.d (.int .u8 a0_Kind), .d (.int .i64 a0_N), .d (.str a0_S), .d (.sl (E.L_Value a0_L_l) (E.X_Value a0_L_x)), .d (.sl (E.L_Field a0_F_l) (E.X_Field a0_F_x)), .d (.int .u8 a0_Elem), .d (.str a0_Key), .d (.bool a0_HasKey)]), (1, PV.agg [.d (.int .u8 a1_Kind), .d (.int .i64 a1_N), .d (.str a1_S), .d (.sl (E.L_Value a1_L_l) (E.X_Value a1_L_x)), .d (.sl (E.L_Field a1_F_l) (E.X_Field a1_F_x)), .d (.int .u8 a1_Elem), .d (.str a1_Key), .d (.bool a1_HasKey)]), (2, PV.ptr 0 0 0), (3, PV.ptr 0 1 0), (4, PV.d (.bool false)), (5, PV.d (.int .i64 o25))], ([X.Obj.box 27 [.d (.int .u8 a0_Kind), .d (.int .i64 a0_N), .d (.str a0_S), .d (.sl (E.L_Value a0_L_l) (E.X_Value a0_L_x)), .d (.sl (E.L_Field a0_F_l) (E.X_Field a0_F_x)), .d (.int .u8 a0_Elem), .d (.str a0_Key), .d (.bool a0_HasKey)], X.Obj.box 27 [.d (.int .u8 a1_Kind), .d (.int .i64 a1_N), .d (.str a1_S), .d (.sl (E.L_Value a1_L_l) (E.X_Value a1_L_x)), .d (.sl (E.L_Field a1_F_l) (E.X_Field a1_F_x)), .d (.int .u8 a1_Elem), .d (.str a1_Key), .d (.bool a1_HasKey)]] : List X.Obj) :: st) | .inr o28 => (.ret, [(0, PV.agg [.d (.int .u8 a0_Kind), .d (.int .i64 a0_N), .d (.str a0_S), .d (.sl (E.L_Value a0_L_l) (E.X_Value a0_L_x)), .d (.sl (E.L_Field a0_F_l) (E.X_Field a0_F_x)), .d (.int .u8 a0_Elem), .d (.str a0_Key), .d (.bool a0_HasKey)]), (1, PV.agg [.d (.int .u8 a1_Kind), .d (.int .i64 a1_N), .d (.str a1_S), .d (.sl (E.L_Value a1_L_l) (E.X_Value a1_L_x)), .d (.sl (E.L_Field a1_F_l) (E.X_Field a1_F_x)), .d (.int .u8 a1_Elem), .d (.str a1_Key), .d (.bool a1_HasKey)]), (2, PV.ptr 0 0 0), (3, PV.ptr 0 1 0), (4, PV.d (.bool false)), (5, PV.d (.int .i64 o28))], ([X.Obj.box 27 [.d (.int .u8 a0_Kind), .d (.int .i64 a0_N), .d (.str a0_S), .d (.sl (E.L_Value a0_L_l) (E.X_Value a0_L_x)), .d (.sl (E.L_Field a0_F_l) (E.X_Field a0_F_x)), .d (.int .u8 a0_Elem), .d (.str a0_Key), .d (.bool a0_HasKey)], X.Obj.box 27 [.d (.int .u8 a1_Kind), .d (.int .i64 a1_N), .d (.str a1_S), .d (.sl (E.L_Value a1_L_l) (E.X_Value a1_L_x)), .d (.sl (E.L_Field a1_F_l) (E.X_Field a1_F_x)), .d (.int .u8 a1_Elem), .d (.str a1_Key), .d (.bool a1_HasKey)]] : List X.Obj) :: st))) 0 hl24 (by first | rfl | ((try clear h); subst_vars; rfl) | ((try clear h); subst_vars; simp only [ln_set])) ?_ ?_
      · clear h hl24
        rintro i13 q h
        unfold P33_s0 at h
        dsimp only at h
        conv => arg 1; cbv
        refine sat_len hΩ (ro_Value hE) a0_L_l (by first | rfl | ((try clear h); subst_vars; rfl)) fun n14 hn15 => ?_
        conv => arg 1; cbv
        refine sat_in hΩ ?_
        conv => arg 1; cbv
        replace h := bif_cases h
        rcases h with ⟨hb16, h⟩ | ⟨hb16, h⟩
        · refine sat_brt (by first | exact hb16 | ((try clear h); subst_vars; first | exact hb16 | rfl)) ?_
          conv => arg 1; cbv
          refine sat_true (fits_l hΩ (ro_Value hE) a0_L_l (by first | rfl | ((try clear h); subst_vars; rfl))) ?_
          conv => arg 1; cbv
          obtain ⟨⟨x17_Kind, x17_N, x17_S, ⟨x17_L_l, x17_L_x⟩, ⟨x17_F_l, x17_F_x⟩, x17_Elem, x17_Key, x17_HasKey⟩, hx18, hz⟩ := Option.bind_eq_some_iff.1 h
          clear h
          have h := hz
          clear hz
          try dsimp only at h
          refine sat_bind (nth_ok hΩ (ro_Value hE) hx18 (by first | rfl | ((try clear h); subst_vars; rfl)) (by first | rfl | ((try clear h); subst_vars; rfl))) ?_
          conv => arg 1; cbv
          refine sat_true (fits_l hΩ (ro_Value hE) a1_L_l (by first | rfl | ((try clear h); subst_vars; rfl))) ?_
          conv => arg 1; cbv
          obtain ⟨⟨x19_Kind, x19_N, x19_S, ⟨x19_L_l, x19_L_x⟩, ⟨x19_F_l, x19_F_x⟩, x19_Elem, x19_Key, x19_HasKey⟩, hx20, hz⟩ := Option.bind_eq_some_iff.1 h
          clear h
          have h := hz
          clear hz
          try dsimp only at h
          refine sat_bind (nth_ok hΩ (ro_Value hE) hx20 (by first | rfl | ((try clear h); subst_vars; rfl)) (by first | rfl | ((try clear h); subst_vars; rfl))) ?_
          conv => arg 1; cbv
          obtain ⟨r21, hx22, hz⟩ := Option.bind_eq_some_iff.1 h
          clear h
          have h := hz
          clear hz
          refine sat_call (hp33 hx22 (by (try clear h); subst_vars; rfl) _) ?_
          conv => arg 1; cbv
          refine sat_true (same_ok hΩ _) ?_
          conv => arg 1; cbv
          refine sat_in hΩ ?_
          conv => arg 1; cbv
          replace h := bif_cases h
          rcases h with ⟨hb23, h⟩ | ⟨hb23, h⟩
          · refine sat_brt (by first | exact hb23 | ((try clear h); subst_vars; first | exact hb23 | rfl)) ?_
            conv => arg 1; cbv
            obtain rfl := Option.some.inj h
            subst_vars
            first | exact sat_pure (.inr ⟨rfl, rfl⟩) | (refine sat_pure (.inr ⟨rfl, ?_⟩); dsimp only; simp only [ln_set]; rfl)
          · refine sat_brf (by first | exact hb23 | ((try clear h); subst_vars; first | exact hb23 | rfl)) ?_
            conv => arg 1; cbv
            obtain rfl := Option.some.inj h
            subst_vars
            first | exact sat_pure ⟨rfl, rfl, rfl⟩ | (refine sat_pure ⟨rfl, ?_, ?_⟩ <;> first | rfl | (dsimp only; simp only [ln_set]; rfl))
        · refine sat_brf (by first | exact hb16 | ((try clear h); subst_vars; first | exact hb16 | rfl)) ?_
          conv => arg 1; cbv
          obtain rfl := Option.some.inj h
          subst_vars
          first | exact sat_pure (.inl ⟨⟨_, rfl⟩, rfl⟩) | (refine sat_pure (.inl ⟨⟨_, rfl⟩, ?_⟩); dsimp only; simp only [ln_set]; rfl)
      · clear hl24
        rcases q with o25 | o28
        · dsimp only at h
          conv => arg 1; cbv
          obtain ⟨r26, hx27, hz⟩ := Option.bind_eq_some_iff.1 h
          clear h
          have h := hz
          clear hz
          refine sat_call (hp56 hx27 (by (try clear h); subst_vars; rfl) _) ?_
          conv => arg 1; cbv
          obtain rfl := Option.some.inj h
          subst_vars
          exact sat_pure rfl
        · dsimp only at h
          conv => arg 1; cbv
          obtain rfl := Option.some.inj h
          subst_vars
          exact sat_pure rfl
set_option maxHeartbeats 4000000 in
theorem okb56 {Ω : Om} {E : Enc} (hΩ : real (call S) = Ω) (hE : theEnc = E) {fu : Nat} {p33 : Value → Value → Option (Bool)} (hp33 : ∀ {a0 : Value} {a1 : Value} {r : Bool}, p33 a0 a1 = some r → ∀ {args : List PV}, [pv_Value E a0, pv_Value E a1] = args → ∀ (st : St), Sat (Ω.cf 33 args st) (fun q => q = (PV.d (.bool r), st))) {p56 : (Sl Field) → (Sl Field) → Option (Bool)} (hp56 : ∀ {a0 : Sl Field} {a1 : Sl Field} {r : Bool}, p56 a0 a1 = some r → ∀ {args : List PV}, [PV.d (.sl (E.L_Field a0.l) (E.X_Field a0.x)), PV.d (.sl (E.L_Field a1.l) (E.X_Field a1.x))] = args → ∀ (st : St), Sat (Ω.cf 56 args st) (fun q => q = (PV.d (.bool r), st))) {a0 : Sl Field} {a1 : Sl Field} {r : Bool} (h : Pb56 fu p33 p56 a0 a1 = some r) {args : List PV} (ha : [PV.d (.sl (E.L_Field a0.l) (E.X_Field a0.x)), PV.d (.sl (E.L_Field a1.l) (E.X_Field a1.x))] = args) (st : St) :
    Sat (Ω.cf 56 args st) (fun q => q = (PV.d (.bool r), st)) := by
  subst ha
  rcases a0 with ⟨a0_l, a0_x⟩
  rcases a1 with ⟨a1_l, a1_x⟩
  rw [cf_body hΩ (f := 56) (fn := Try.f56) (x := c56) rfl rfl c56_ok rfl rfl]
  unfold Pb56 at h
  try dsimp only at h
  conv => arg 1; cbv
  refine sat_len hΩ (ro_Field hE) a0_l (by first | rfl | ((try clear h); subst_vars; rfl)) fun n1 hn2 => ?_
  conv => arg 1; cbv
  refine sat_len hΩ (ro_Field hE) a1_l (by first | rfl | ((try clear h); subst_vars; rfl)) fun n3 hn4 => ?_
  conv => arg 1; cbv
  refine sat_in hΩ ?_
  conv => arg 1; cbv
  replace h := bif_cases h
  rcases h with ⟨hb5, h⟩ | ⟨hb5, h⟩
  · refine sat_brt (by first | exact hb5 | ((try clear h); subst_vars; first | exact hb5 | rfl)) ?_
    conv => arg 1; cbv
    obtain rfl := Option.some.inj h
    subst_vars
    exact sat_pure rfl
  · refine sat_brf (by first | exact hb5 | ((try clear h); subst_vars; first | exact hb5 | rfl)) ?_
    conv => arg 1; cbv
    obtain ⟨q, hl24, hz⟩ := Option.bind_eq_some_iff.1 h
    clear h
    have h := hz
    clear hz
    refine sat_loop hΩ (fun (a : Int) => (match a with | i6 => ([(0, PV.d (.sl (E.L_Field a0_l) (E.X_Field a0_x))), (1, PV.d (.sl (E.L_Field a1_l) (E.X_Field a1_x))), (4, PV.d (.bool false)), (5, PV.d (.int .i64 i6))], ([] : List X.Obj) :: st))) (fun (q : Int ⊕ Int) => (match q with | .inl o25 => (.exit 0, [(0, PV.d (.sl (E.L_Field a0_l) (E.X_Field a0_x))), (1, PV.d (.sl (E.L_Field a1_l) (E.X_Field a1_x))), (4, PV.d (.bool false)), (5, PV.d (.int .i64 o25))], ([] : List X.Obj) :: st) | .inr o26 => (.ret, [(0, PV.d (.sl (E.L_Field a0_l) (E.X_Field a0_x))), (1, PV.d (.sl (E.L_Field a1_l) (E.X_Field a1_x))), (4, PV.d (.bool false)), (5, PV.d (.int .i64 o26))], ([] : List X.Obj) :: st))) 0 hl24 (by first | rfl | ((try clear h); subst_vars; rfl) | ((try clear h); subst_vars; simp only [ln_set])) ?_ ?_
    · clear h hl24
      rintro i6 q h
      unfold P56_s0 at h
      dsimp only at h
      conv => arg 1; cbv
      refine sat_len hΩ (ro_Field hE) a0_l (by first | rfl | ((try clear h); subst_vars; rfl)) fun n7 hn8 => ?_
      conv => arg 1; cbv
      refine sat_in hΩ ?_
      conv => arg 1; cbv
      replace h := bif_cases h
      rcases h with ⟨hb9, h⟩ | ⟨hb9, h⟩
      · refine sat_brt (by first | exact hb9 | ((try clear h); subst_vars; first | exact hb9 | rfl)) ?_
        conv => arg 1; cbv
        obtain ⟨q, hq23, hz⟩ := Option.bind_eq_some_iff.1 h
        clear h
        have h := hz
        clear hz
        refine sat_grp hΩ ((fun (q : Bool) => (match q with | i21 => ([(0, PV.d (.sl (E.L_Field a0_l) (E.X_Field a0_x))), (1, PV.d (.sl (E.L_Field a1_l) (E.X_Field a1_x))), (4, PV.d (.bool false)), (5, PV.d (.int .i64 i6)), (41, PV.d (.bool i21))], ([] : List X.Obj) :: st))) q) (fun k hk => ?_) ?_
        · clear h
          have h := hq23
          clear hq23
          conv => arg 1; cbv
          refine sat_true (fits_l hΩ (ro_Field hE) a0_l (by first | rfl | ((try clear h); subst_vars; rfl))) ?_
          conv => arg 1; cbv
          obtain ⟨⟨x10_Name, ⟨x10_Value__Kind, x10_Value__N, x10_Value__S, ⟨x10_Value__L_l, x10_Value__L_x⟩, ⟨x10_Value__F_l, x10_Value__F_x⟩, x10_Value__Elem, x10_Value__Key, x10_Value__HasKey⟩⟩, hx11, hz⟩ := Option.bind_eq_some_iff.1 h
          clear h
          have h := hz
          clear hz
          try dsimp only at h
          refine sat_bind (nth_ok hΩ (ro_Field hE) hx11 (by first | rfl | ((try clear h); subst_vars; rfl)) (by first | rfl | ((try clear h); subst_vars; rfl))) ?_
          conv => arg 1; cbv
          refine sat_true (fits_l hΩ (ro_Field hE) a1_l (by first | rfl | ((try clear h); subst_vars; rfl))) ?_
          conv => arg 1; cbv
          obtain ⟨⟨x12_Name, ⟨x12_Value__Kind, x12_Value__N, x12_Value__S, ⟨x12_Value__L_l, x12_Value__L_x⟩, ⟨x12_Value__F_l, x12_Value__F_x⟩, x12_Value__Elem, x12_Value__Key, x12_Value__HasKey⟩⟩, hx13, hz⟩ := Option.bind_eq_some_iff.1 h
          clear h
          have h := hz
          clear hz
          try dsimp only at h
          refine sat_bind (nth_ok hΩ (ro_Field hE) hx13 (by first | rfl | ((try clear h); subst_vars; rfl)) (by first | rfl | ((try clear h); subst_vars; rfl))) ?_
          conv => arg 1; cbv
          refine sat_tick hΩ ?_
          conv => arg 1; cbv
          replace h := bif_cases h
          rcases h with ⟨hb14, h⟩ | ⟨hb14, h⟩
          · refine sat_brt (by first | exact hb14 | ((try clear h); subst_vars; first | exact hb14 | rfl)) ?_
            conv => arg 1; cbv
            refine sat_true (fits_l hΩ (ro_Field hE) a0_l (by first | rfl | ((try clear h); subst_vars; rfl))) ?_
            conv => arg 1; cbv
            obtain ⟨⟨x15_Name, ⟨x15_Value__Kind, x15_Value__N, x15_Value__S, ⟨x15_Value__L_l, x15_Value__L_x⟩, ⟨x15_Value__F_l, x15_Value__F_x⟩, x15_Value__Elem, x15_Value__Key, x15_Value__HasKey⟩⟩, hx16, hz⟩ := Option.bind_eq_some_iff.1 h
            clear h
            have h := hz
            clear hz
            try dsimp only at h
            refine sat_bind (nth_ok hΩ (ro_Field hE) hx16 (by first | rfl | ((try clear h); subst_vars; rfl)) (by first | rfl | ((try clear h); subst_vars; rfl))) ?_
            conv => arg 1; cbv
            refine sat_true (fits_l hΩ (ro_Field hE) a1_l (by first | rfl | ((try clear h); subst_vars; rfl))) ?_
            conv => arg 1; cbv
            obtain ⟨⟨x17_Name, ⟨x17_Value__Kind, x17_Value__N, x17_Value__S, ⟨x17_Value__L_l, x17_Value__L_x⟩, ⟨x17_Value__F_l, x17_Value__F_x⟩, x17_Value__Elem, x17_Value__Key, x17_Value__HasKey⟩⟩, hx18, hz⟩ := Option.bind_eq_some_iff.1 h
            clear h
            have h := hz
            clear hz
            try dsimp only at h
            refine sat_bind (nth_ok hΩ (ro_Field hE) hx18 (by first | rfl | ((try clear h); subst_vars; rfl)) (by first | rfl | ((try clear h); subst_vars; rfl))) ?_
            conv => arg 1; cbv
            obtain ⟨r19, hx20, hz⟩ := Option.bind_eq_some_iff.1 h
            clear h
            have h := hz
            clear hz
            refine sat_call (hp33 hx20 (by (try clear h); subst_vars; rfl) _) ?_
            conv => arg 1; cbv
            refine sat_true (same_ok hΩ _) ?_
            conv => arg 1; cbv
            refine sat_tick hΩ ?_
            conv => arg 1; cbv
            obtain rfl := Option.some.inj h
            subst_vars
            first | exact hk | (simp only [ln_set] at hk ⊢; exact hk)
          · refine sat_brf (by first | exact hb14 | ((try clear h); subst_vars; first | exact hb14 | rfl)) ?_
            conv => arg 1; cbv
            refine sat_tick hΩ ?_
            conv => arg 1; cbv
            obtain rfl := Option.some.inj h
            subst_vars
            first | exact hk | (simp only [ln_set] at hk ⊢; exact hk)
        · clear hq23
          obtain ⟨i21, hqq⟩ : ∃ x, x = q := ⟨_, rfl⟩
          subst hqq
          try dsimp only at h
          conv => arg 1; cbv
          refine sat_in hΩ ?_
          conv => arg 1; cbv
          replace h := bif_cases h
          rcases h with ⟨hb22, h⟩ | ⟨hb22, h⟩
          · refine sat_brt (by first | exact hb22 | ((try clear h); subst_vars; first | exact hb22 | rfl)) ?_
            conv => arg 1; cbv
            obtain rfl := Option.some.inj h
            subst_vars
            first | exact sat_pure (.inr ⟨rfl, rfl⟩) | (refine sat_pure (.inr ⟨rfl, ?_⟩); dsimp only; simp only [ln_set]; rfl)
          · refine sat_brf (by first | exact hb22 | ((try clear h); subst_vars; first | exact hb22 | rfl)) ?_
            conv => arg 1; cbv
            obtain rfl := Option.some.inj h
            subst_vars
            first | exact sat_pure ⟨rfl, rfl, rfl⟩ | (refine sat_pure ⟨rfl, ?_, ?_⟩ <;> first | rfl | (dsimp only; simp only [ln_set]; rfl))
      · refine sat_brf (by first | exact hb9 | ((try clear h); subst_vars; first | exact hb9 | rfl)) ?_
        conv => arg 1; cbv
        obtain rfl := Option.some.inj h
        subst_vars
        first | exact sat_pure (.inl ⟨⟨_, rfl⟩, rfl⟩) | (refine sat_pure (.inl ⟨⟨_, rfl⟩, ?_⟩); dsimp only; simp only [ln_set]; rfl)
    · clear hl24
      rcases q with o25 | o26
      · dsimp only at h
        conv => arg 1; cbv
        obtain rfl := Option.some.inj h
        subst_vars
        exact sat_pure rfl
      · dsimp only at h
        conv => arg 1; cbv
        obtain rfl := Option.some.inj h
        subst_vars
        exact sat_pure rfl
theorem okr33 {Ω : Om} {E : Enc} (hΩ : real (call S) = Ω) (hE : theEnc = E) : ∀ fu,
    (∀ {a0 : Value} {a1 : Value} {r : Bool}, P33 fu a0 a1 = some r → ∀ {args : List PV}, [pv_Value E a0, pv_Value E a1] = args → ∀ (st : St), Sat (Ω.cf 33 args st) (fun q => q = (PV.d (.bool r), st))) ∧
    (∀ {a0 : Sl Field} {a1 : Sl Field} {r : Bool}, P56 fu a0 a1 = some r → ∀ {args : List PV}, [PV.d (.sl (E.L_Field a0.l) (E.X_Field a0.x)), PV.d (.sl (E.L_Field a1.l) (E.X_Field a1.x))] = args → ∀ (st : St), Sat (Ω.cf 56 args st) (fun q => q = (PV.d (.bool r), st))) := by
  intro fu
  induction fu with
  | zero => exact ⟨(fun h => (by cases h)), (fun h => (by cases h))⟩
  | succ fu ih =>
    obtain ⟨i33, i56⟩ := ih
    exact ⟨(fun h => @fun args ha st => okb33 (fu := fu) hΩ hE i33 i56 h ha st), (fun h => @fun args ha st => okb56 (fu := fu) hΩ hE i33 i56 h ha st)⟩
theorem ok33 {Ω : Om} {E : Enc} (hΩ : real (call S) = Ω) (hE : theEnc = E) {fu : Nat} : ∀ {a0 : Value} {a1 : Value} {r : Bool}, P33 fu a0 a1 = some r → ∀ {args : List PV}, [pv_Value E a0, pv_Value E a1] = args → ∀ (st : St), Sat (Ω.cf 33 args st) (fun q => q = (PV.d (.bool r), st)) := (okr33 hΩ hE fu).1
theorem ok56 {Ω : Om} {E : Enc} (hΩ : real (call S) = Ω) (hE : theEnc = E) {fu : Nat} : ∀ {a0 : Sl Field} {a1 : Sl Field} {r : Bool}, P56 fu a0 a1 = some r → ∀ {args : List PV}, [PV.d (.sl (E.L_Field a0.l) (E.X_Field a0.x)), PV.d (.sl (E.L_Field a1.l) (E.X_Field a1.x))] = args → ∀ (st : St), Sat (Ω.cf 56 args st) (fun q => q = (PV.d (.bool r), st)) := (okr33 hΩ hE fu).2
set_option maxHeartbeats 4000000 in
theorem ok15 {Ω : Om} {E : Enc} (hΩ : real (call S) = Ω) (hE : theEnc = E) {fu : Nat} {a0 : Sl Value} {a1 : Sl Value} {r : Bool} (h : P15 fu a0 a1 = some r) {args : List PV} (ha : [PV.d (.sl (E.L_Value a0.l) (E.X_Value a0.x)), PV.d (.sl (E.L_Value a1.l) (E.X_Value a1.x))] = args) (st : St) :
    Sat (Ω.cf 15 args st) (fun q => q = (PV.d (.bool r), st)) := by
  subst ha
  rcases a0 with ⟨a0_l, a0_x⟩
  rcases a1 with ⟨a1_l, a1_x⟩
  rw [cf_body hΩ (f := 15) (fn := Try.f15) (x := c15) rfl rfl c15_ok rfl rfl]
  unfold P15 at h
  try dsimp only at h
  conv => arg 1; cbv
  refine sat_len hΩ (ro_Value hE) a0_l (by first | rfl | ((try clear h); subst_vars; rfl)) fun n1 hn2 => ?_
  conv => arg 1; cbv
  refine sat_len hΩ (ro_Value hE) a1_l (by first | rfl | ((try clear h); subst_vars; rfl)) fun n3 hn4 => ?_
  conv => arg 1; cbv
  refine sat_in hΩ ?_
  conv => arg 1; cbv
  replace h := bif_cases h
  rcases h with ⟨hb5, h⟩ | ⟨hb5, h⟩
  · refine sat_brt (by first | exact hb5 | ((try clear h); subst_vars; first | exact hb5 | rfl)) ?_
    conv => arg 1; cbv
    obtain rfl := Option.some.inj h
    subst_vars
    exact sat_pure rfl
  · refine sat_brf (by first | exact hb5 | ((try clear h); subst_vars; first | exact hb5 | rfl)) ?_
    conv => arg 1; cbv
    obtain ⟨q, hl18, hz⟩ := Option.bind_eq_some_iff.1 h
    clear h
    have h := hz
    clear hz
    refine sat_loop hΩ (fun (a : Bool × Int) => (match a with | (i6, i7) => ([(0, PV.d (.sl (E.L_Value a0_l) (E.X_Value a0_x))), (1, PV.d (.sl (E.L_Value a1_l) (E.X_Value a1_x))), (4, PV.d (.bool i6)), (5, PV.d (.int .i64 i7))], ([] : List X.Obj) :: st))) (fun (q : (Bool × Int) ⊕ (Bool × Int)) => (match q with | .inl (o19, o20) => (.exit 0, [(0, PV.d (.sl (E.L_Value a0_l) (E.X_Value a0_x))), (1, PV.d (.sl (E.L_Value a1_l) (E.X_Value a1_x))), (4, PV.d (.bool o19)), (5, PV.d (.int .i64 o20))], ([] : List X.Obj) :: st) | .inr (o21, o22) => (.ret, [(0, PV.d (.sl (E.L_Value a0_l) (E.X_Value a0_x))), (1, PV.d (.sl (E.L_Value a1_l) (E.X_Value a1_x))), (4, PV.d (.bool o21)), (5, PV.d (.int .i64 o22))], ([] : List X.Obj) :: st))) (false, 0) hl18 (by first | rfl | ((try clear h); subst_vars; rfl) | ((try clear h); subst_vars; simp only [ln_set])) ?_ ?_
    · clear h hl18
      rintro ⟨i6, i7⟩ q h
      unfold P15_s0 at h
      dsimp only at h
      conv => arg 1; cbv
      refine sat_len hΩ (ro_Value hE) a0_l (by first | rfl | ((try clear h); subst_vars; rfl)) fun n8 hn9 => ?_
      conv => arg 1; cbv
      refine sat_in hΩ ?_
      conv => arg 1; cbv
      replace h := bif_cases h
      rcases h with ⟨hb10, h⟩ | ⟨hb10, h⟩
      · refine sat_brt (by first | exact hb10 | ((try clear h); subst_vars; first | exact hb10 | rfl)) ?_
        conv => arg 1; cbv
        refine sat_true (fits_l hΩ (ro_Value hE) a0_l (by first | rfl | ((try clear h); subst_vars; rfl))) ?_
        conv => arg 1; cbv
        obtain ⟨⟨x11_Kind, x11_N, x11_S, ⟨x11_L_l, x11_L_x⟩, ⟨x11_F_l, x11_F_x⟩, x11_Elem, x11_Key, x11_HasKey⟩, hx12, hz⟩ := Option.bind_eq_some_iff.1 h
        clear h
        have h := hz
        clear hz
        try dsimp only at h
        refine sat_bind (nth_ok hΩ (ro_Value hE) hx12 (by first | rfl | ((try clear h); subst_vars; rfl)) (by first | rfl | ((try clear h); subst_vars; rfl))) ?_
        conv => arg 1; cbv
        refine sat_true (fits_l hΩ (ro_Value hE) a1_l (by first | rfl | ((try clear h); subst_vars; rfl))) ?_
        conv => arg 1; cbv
        obtain ⟨⟨x13_Kind, x13_N, x13_S, ⟨x13_L_l, x13_L_x⟩, ⟨x13_F_l, x13_F_x⟩, x13_Elem, x13_Key, x13_HasKey⟩, hx14, hz⟩ := Option.bind_eq_some_iff.1 h
        clear h
        have h := hz
        clear hz
        try dsimp only at h
        refine sat_bind (nth_ok hΩ (ro_Value hE) hx14 (by first | rfl | ((try clear h); subst_vars; rfl)) (by first | rfl | ((try clear h); subst_vars; rfl))) ?_
        conv => arg 1; cbv
        obtain ⟨r15, hx16, hz⟩ := Option.bind_eq_some_iff.1 h
        clear h
        have h := hz
        clear hz
        refine sat_call (ok33 hΩ hE hx16 (by (try clear h); subst_vars; rfl) _) ?_
        conv => arg 1; cbv
        refine sat_true (same_ok hΩ _) ?_
        conv => arg 1; cbv
        refine sat_in hΩ ?_
        conv => arg 1; cbv
        replace h := bif_cases h
        rcases h with ⟨hb17, h⟩ | ⟨hb17, h⟩
        · refine sat_brt (by first | exact hb17 | ((try clear h); subst_vars; first | exact hb17 | rfl)) ?_
          conv => arg 1; cbv
          obtain rfl := Option.some.inj h
          subst_vars
          first | exact sat_pure (.inr ⟨rfl, rfl⟩) | (refine sat_pure (.inr ⟨rfl, ?_⟩); dsimp only; simp only [ln_set]; rfl)
        · refine sat_brf (by first | exact hb17 | ((try clear h); subst_vars; first | exact hb17 | rfl)) ?_
          conv => arg 1; cbv
          obtain rfl := Option.some.inj h
          subst_vars
          first | exact sat_pure ⟨rfl, rfl, rfl⟩ | (refine sat_pure ⟨rfl, ?_, ?_⟩ <;> first | rfl | (dsimp only; simp only [ln_set]; rfl))
      · refine sat_brf (by first | exact hb10 | ((try clear h); subst_vars; first | exact hb10 | rfl)) ?_
        conv => arg 1; cbv
        obtain rfl := Option.some.inj h
        subst_vars
        first | exact sat_pure (.inl ⟨⟨_, rfl⟩, rfl⟩) | (refine sat_pure (.inl ⟨⟨_, rfl⟩, ?_⟩); dsimp only; simp only [ln_set]; rfl)
    · clear hl18
      rcases q with ⟨o19, o20⟩ | ⟨o21, o22⟩
      · dsimp only at h
        conv => arg 1; cbv
        obtain rfl := Option.some.inj h
        subst_vars
        exact sat_pure rfl
      · dsimp only at h
        conv => arg 1; cbv
        obtain rfl := Option.some.inj h
        subst_vars
        exact sat_pure rfl
set_option maxHeartbeats 4000000 in
theorem okb16 {Ω : Om} {E : Enc} (hΩ : real (call S) = Ω) (hE : theEnc = E) {fu : Nat} {p16 : (Sl Value) → (Sl Value) → Option (Bool)} (hp16 : ∀ {a0 : Sl Value} {a1 : Sl Value} {r : Bool}, p16 a0 a1 = some r → ∀ {args : List PV}, [PV.d (.sl (E.L_Value a0.l) (E.X_Value a0.x)), PV.d (.sl (E.L_Value a1.l) (E.X_Value a1.x))] = args → ∀ (st : St), Sat (Ω.cf 16 args st) (fun q => q = (PV.d (.bool r), st))) {p37 : Value → Value → Option (Bool)} (hp37 : ∀ {a0 : Value} {a1 : Value} {r : Bool}, p37 a0 a1 = some r → ∀ {args : List PV}, [pv_Value E a0, pv_Value E a1] = args → ∀ (st : St), Sat (Ω.cf 37 args st) (fun q => q = (PV.d (.bool r), st))) {p58 : (Sl Field) → (Sl Field) → Option (Bool)} (hp58 : ∀ {a0 : Sl Field} {a1 : Sl Field} {r : Bool}, p58 a0 a1 = some r → ∀ {args : List PV}, [PV.d (.sl (E.L_Field a0.l) (E.X_Field a0.x)), PV.d (.sl (E.L_Field a1.l) (E.X_Field a1.x))] = args → ∀ (st : St), Sat (Ω.cf 58 args st) (fun q => q = (PV.d (.bool r), st))) {p75 : Field → Field → Option (Bool)} (hp75 : ∀ {a0 : Field} {a1 : Field} {r : Bool}, p75 a0 a1 = some r → ∀ {args : List PV}, [pv_Field E a0, pv_Field E a1] = args → ∀ (st : St), Sat (Ω.cf 75 args st) (fun q => q = (PV.d (.bool r), st))) {a0 : Sl Value} {a1 : Sl Value} {r : Bool} (h : Pb16 fu p16 p37 p58 p75 a0 a1 = some r) {args : List PV} (ha : [PV.d (.sl (E.L_Value a0.l) (E.X_Value a0.x)), PV.d (.sl (E.L_Value a1.l) (E.X_Value a1.x))] = args) (st : St) :
    Sat (Ω.cf 16 args st) (fun q => q = (PV.d (.bool r), st)) := by
  subst ha
  rcases a0 with ⟨a0_l, _ | a0_h⟩
  · rcases a1 with ⟨a1_l, a1_x⟩
    rw [cf_body hΩ (f := 16) (fn := Try.f16) (x := c16) rfl rfl c16_ok rfl rfl]
    unfold Pb16 at h
    try dsimp only at h
    dsimp only []
    rw [show E.X_Value none = none from by rw [(ro_Value hE).2.1]; rfl]
    conv => arg 1; cbv
    refine sat_in hΩ ?_
    conv => arg 1; cbv
    refine sat_len hΩ (ro_Value hE) a0_l (by first | rfl | ((try clear h); subst_vars; rfl)) fun n1 hn2 => ?_
    conv => arg 1; cbv
    refine sat_len hΩ (ro_Value hE) a1_l (by first | rfl | ((try clear h); subst_vars; rfl)) fun n3 hn4 => ?_
    conv => arg 1; cbv
    replace h := bif_cases h
    rcases h with ⟨hb5, h⟩ | ⟨hb5, h⟩
    · cases h
    refine sat_brf (by first | exact hb5 | ((try clear h); subst_vars; first | exact hb5 | rfl)) ?_
    conv => arg 1; cbv
    refine sat_in hΩ ?_
    conv => arg 1; cbv
    obtain rfl := Option.some.inj h
    subst_vars
    exact sat_pure rfl
  · rcases a1 with ⟨a1_l, a1_x⟩
    rw [cf_body hΩ (f := 16) (fn := Try.f16) (x := c16) rfl rfl c16_ok rfl rfl]
    unfold Pb16 at h
    try dsimp only at h
    dsimp only []
    rw [show E.X_Value (some a0_h) = some (E.L_Value a0_h) from by rw [(ro_Value hE).2.1]; rfl]
    conv => arg 1; cbv
    obtain ⟨q, hq52, hz⟩ := Option.bind_eq_some_iff.1 h
    clear h
    have h := hz
    clear hz
    refine sat_grp hΩ ((fun (q : Bool) => (match q with | i17 => ([(0, PV.d (.sl (E.L_Value a0_l) (some (E.L_Value a0_h)))), (1, PV.d (.sl (E.L_Value a1_l) (E.X_Value a1_x))), (4, PV.d (.bool false)), (18, PV.d (.bool i17))], ([] : List X.Obj) :: st))) q) (fun k hk => ?_) ?_
    · clear h
      have h := hq52
      clear hq52
      conv => arg 1; cbv
      refine sat_len hΩ (ro_Value hE) a0_l (by first | rfl | ((try clear h); subst_vars; rfl)) fun n6 hn7 => ?_
      conv => arg 1; cbv
      refine sat_len hΩ (ro_Value hE) a1_l (by first | rfl | ((try clear h); subst_vars; rfl)) fun n8 hn9 => ?_
      conv => arg 1; cbv
      replace h := bif_cases h
      rcases h with ⟨hb10, h⟩ | ⟨hb10, h⟩
      · refine sat_brt (by first | exact hb10 | ((try clear h); subst_vars; first | exact hb10 | rfl)) ?_
        conv => arg 1; cbv
        refine sat_cat hΩ (ro_Value hE) a0_l a0_h (by first | rfl | ((try clear h); subst_vars; rfl)) (by first | rfl | ((try clear h); subst_vars; rfl)) fun l11 hl12 n13 hn14 => ?_
        conv => arg 1; cbv
        refine sat_len hΩ (ro_Value hE) a1_l (by first | rfl | ((try clear h); subst_vars; rfl)) fun n15 hn16 => ?_
        conv => arg 1; cbv
        obtain rfl := Option.some.inj h
        subst_vars
        first | exact hk | (simp only [ln_set] at hk ⊢; exact hk)
      · refine sat_brf (by first | exact hb10 | ((try clear h); subst_vars; first | exact hb10 | rfl)) ?_
        conv => arg 1; cbv
        obtain rfl := Option.some.inj h
        subst_vars
        first | exact hk | (simp only [ln_set] at hk ⊢; exact hk)
    · clear hq52
      obtain ⟨i17, hqq⟩ : ∃ x, x = q := ⟨_, rfl⟩
      subst hqq
      try dsimp only at h
      conv => arg 1; cbv
      refine sat_in hΩ ?_
      conv => arg 1; cbv
      replace h := bif_cases h
      rcases h with ⟨hb18, h⟩ | ⟨hb18, h⟩
      · refine sat_brt (by first | exact hb18 | ((try clear h); subst_vars; first | exact hb18 | rfl)) ?_
        conv => arg 1; cbv
        obtain rfl := Option.some.inj h
        subst_vars
        exact sat_pure rfl
      · refine sat_brf (by first | exact hb18 | ((try clear h); subst_vars; first | exact hb18 | rfl)) ?_
        conv => arg 1; cbv
        obtain ⟨q, hl30, hz⟩ := Option.bind_eq_some_iff.1 h
        clear h
        have h := hz
        clear hz
        refine sat_loop hΩ (fun (a : Int) => (match a with | i19 => ([(0, PV.d (.sl (E.L_Value a0_l) (some (E.L_Value a0_h)))), (1, PV.d (.sl (E.L_Value a1_l) (E.X_Value a1_x))), (4, PV.d (.bool false)), (5, PV.d (.int .i64 i19))], ([] : List X.Obj) :: st))) (fun (q : Int ⊕ Int) => (match q with | .inl o31 => (.exit 0, [(0, PV.d (.sl (E.L_Value a0_l) (some (E.L_Value a0_h)))), (1, PV.d (.sl (E.L_Value a1_l) (E.X_Value a1_x))), (4, PV.d (.bool false)), (5, PV.d (.int .i64 o31))], ([] : List X.Obj) :: st) | .inr o51 => (.ret, [(0, PV.d (.sl (E.L_Value a0_l) (some (E.L_Value a0_h)))), (1, PV.d (.sl (E.L_Value a1_l) (E.X_Value a1_x))), (4, PV.d (.bool false)), (5, PV.d (.int .i64 o51))], ([] : List X.Obj) :: st))) 0 hl30 (by first | rfl | ((try clear h); subst_vars; rfl) | ((try clear h); subst_vars; simp only [ln_set])) ?_ ?_
        · clear h hl30
          rintro i19 q h
          unfold P16_s0 at h
          dsimp only at h
          conv => arg 1; cbv
          refine sat_len hΩ (ro_Value hE) a1_l (by first | rfl | ((try clear h); subst_vars; rfl)) fun n20 hn21 => ?_
          conv => arg 1; cbv
          refine sat_in hΩ ?_
          conv => arg 1; cbv
          replace h := bif_cases h
          rcases h with ⟨hb22, h⟩ | ⟨hb22, h⟩
          · refine sat_brt (by first | exact hb22 | ((try clear h); subst_vars; first | exact hb22 | rfl)) ?_
            conv => arg 1; cbv
            refine sat_true (fits_l hΩ (ro_Value hE) a0_l (by first | rfl | ((try clear h); subst_vars; rfl))) ?_
            conv => arg 1; cbv
            obtain ⟨⟨x23_Kind, x23_N, x23_S, ⟨x23_L_l, x23_L_x⟩, ⟨x23_F_l, x23_F_x⟩, x23_Elem, x23_Key, x23_HasKey⟩, hx24, hz⟩ := Option.bind_eq_some_iff.1 h
            clear h
            have h := hz
            clear hz
            try dsimp only at h
            refine sat_bind (nth_ok hΩ (ro_Value hE) hx24 (by first | rfl | ((try clear h); subst_vars; rfl)) (by first | rfl | ((try clear h); subst_vars; rfl))) ?_
            conv => arg 1; cbv
            refine sat_true (fits_l hΩ (ro_Value hE) a1_l (by first | rfl | ((try clear h); subst_vars; rfl))) ?_
            conv => arg 1; cbv
            obtain ⟨⟨x25_Kind, x25_N, x25_S, ⟨x25_L_l, x25_L_x⟩, ⟨x25_F_l, x25_F_x⟩, x25_Elem, x25_Key, x25_HasKey⟩, hx26, hz⟩ := Option.bind_eq_some_iff.1 h
            clear h
            have h := hz
            clear hz
            try dsimp only at h
            refine sat_bind (nth_ok hΩ (ro_Value hE) hx26 (by first | rfl | ((try clear h); subst_vars; rfl)) (by first | rfl | ((try clear h); subst_vars; rfl))) ?_
            conv => arg 1; cbv
            obtain ⟨r27, hx28, hz⟩ := Option.bind_eq_some_iff.1 h
            clear h
            have h := hz
            clear hz
            refine sat_call (hp37 hx28 (by (try clear h); subst_vars; rfl) _) ?_
            conv => arg 1; cbv
            refine sat_true (same_ok hΩ _) ?_
            conv => arg 1; cbv
            refine sat_in hΩ ?_
            conv => arg 1; cbv
            replace h := bif_cases h
            rcases h with ⟨hb29, h⟩ | ⟨hb29, h⟩
            · refine sat_brt (by first | exact hb29 | ((try clear h); subst_vars; first | exact hb29 | rfl)) ?_
              conv => arg 1; cbv
              obtain rfl := Option.some.inj h
              subst_vars
              first | exact sat_pure (.inr ⟨rfl, rfl⟩) | (refine sat_pure (.inr ⟨rfl, ?_⟩); dsimp only; simp only [ln_set]; rfl)
            · refine sat_brf (by first | exact hb29 | ((try clear h); subst_vars; first | exact hb29 | rfl)) ?_
              conv => arg 1; cbv
              obtain rfl := Option.some.inj h
              subst_vars
              first | exact sat_pure ⟨rfl, rfl, rfl⟩ | (refine sat_pure ⟨rfl, ?_, ?_⟩ <;> first | rfl | (dsimp only; simp only [ln_set]; rfl))
          · refine sat_brf (by first | exact hb22 | ((try clear h); subst_vars; first | exact hb22 | rfl)) ?_
            conv => arg 1; cbv
            obtain rfl := Option.some.inj h
            subst_vars
            first | exact sat_pure (.inl ⟨⟨_, rfl⟩, rfl⟩) | (refine sat_pure (.inl ⟨⟨_, rfl⟩, ?_⟩); dsimp only; simp only [ln_set]; rfl)
        · clear hl30
          rcases q with o31 | o51
          · dsimp only at h
            conv => arg 1; cbv
            refine sat_len hΩ (ro_Value hE) a1_l (by first | rfl | ((try clear h); subst_vars; rfl)) fun n32 hn33 => ?_
            conv => arg 1; cbv
            refine sat_true (fits_x hΩ (ro_Value hE) a0_l (some a0_h) (by first | rfl | ((try clear h); subst_vars; rfl)) (by first | rfl | ((try clear h); subst_vars; rfl))) ?_
            conv => arg 1; cbv
            refine sat_len hΩ (ro_Value hE) a0_l (by first | rfl | ((try clear h); subst_vars; rfl)) fun n34 hn35 => ?_
            conv => arg 1; cbv
            refine sat_cat hΩ (ro_Value hE) a0_l a0_h (by first | rfl | ((try clear h); subst_vars; rfl)) (by first | rfl | ((try clear h); subst_vars; rfl)) fun l36 hl37 n38 hn39 => ?_
            conv => arg 1; cbv
            replace h := bif_some h
            obtain ⟨hb40, h⟩ := h
            refine sat_true (by first | exact hb40 | ((try clear h); subst_vars; first | exact hb40 | rfl)) ?_
            conv => arg 1; cbv
            replace h := bif_some h
            obtain ⟨hb41, h⟩ := h
            refine sat_true (by first | exact hb41 | ((try clear h); subst_vars; first | exact hb41 | rfl)) ?_
            conv => arg 1; cbv
            replace h := bif_some h
            obtain ⟨hb42, h⟩ := h
            refine sat_true (by first | exact hb42 | ((try clear h); subst_vars; first | exact hb42 | rfl)) ?_
            conv => arg 1; cbv
            refine sat_cut hΩ (ro_Value hE) (a0_l ++ a0_h) 0 (w64 ((ln a1_l) + 1)) (by first | rfl | ((try clear h); subst_vars; rfl)) (by first | rfl | ((try clear h); subst_vars; rfl)) (by first | rfl | ((try clear h); subst_vars; rfl)) fun l43 hl44 => ?_
            conv => arg 1; cbv
            refine sat_cut hΩ (ro_Value hE) (a0_l ++ a0_h) (w64 ((ln a1_l) + 1)) (ln (a0_l ++ a0_h)) (by first | rfl | ((try clear h); subst_vars; rfl)) (by first | rfl | ((try clear h); subst_vars; rfl)) (by first | rfl | ((try clear h); subst_vars; rfl)) fun l45 hl46 => ?_
            conv => arg 1; cbv
            refine sat_len hΩ (ro_Value hE) a1_l (by first | rfl | ((try clear h); subst_vars; rfl)) fun n47 hn48 => ?_
            conv => arg 1; cbv
            refine sat_true (fits_l hΩ (ro_Value hE) (cut (a0_l ++ a0_h) 0 (w64 ((ln a1_l) + 1))) (by first | rfl | ((try clear h); subst_vars; rfl))) ?_
            conv => arg 1; cbv
            obtain ⟨⟨x49_Kind, x49_N, x49_S, ⟨x49_L_l, x49_L_x⟩, ⟨x49_F_l, x49_F_x⟩, x49_Elem, x49_Key, x49_HasKey⟩, hx50, hz⟩ := Option.bind_eq_some_iff.1 h
            clear h
            have h := hz
            clear hz
            try dsimp only at h
            refine sat_bind (nth_ok hΩ (ro_Value hE) hx50 (by first | rfl | ((try clear h); subst_vars; rfl)) (by first | rfl | ((try clear h); subst_vars; rfl))) ?_
            conv => arg 1; cbv
            obtain rfl := Option.some.inj h
            subst_vars
            exact sat_pure rfl
          · dsimp only at h
            conv => arg 1; cbv
            obtain rfl := Option.some.inj h
            subst_vars
            exact sat_pure rfl
set_option maxHeartbeats 4000000 in
theorem okb37 {Ω : Om} {E : Enc} (hΩ : real (call S) = Ω) (hE : theEnc = E) {fu : Nat} {p16 : (Sl Value) → (Sl Value) → Option (Bool)} (hp16 : ∀ {a0 : Sl Value} {a1 : Sl Value} {r : Bool}, p16 a0 a1 = some r → ∀ {args : List PV}, [PV.d (.sl (E.L_Value a0.l) (E.X_Value a0.x)), PV.d (.sl (E.L_Value a1.l) (E.X_Value a1.x))] = args → ∀ (st : St), Sat (Ω.cf 16 args st) (fun q => q = (PV.d (.bool r), st))) {p37 : Value → Value → Option (Bool)} (hp37 : ∀ {a0 : Value} {a1 : Value} {r : Bool}, p37 a0 a1 = some r → ∀ {args : List PV}, [pv_Value E a0, pv_Value E a1] = args → ∀ (st : St), Sat (Ω.cf 37 args st) (fun q => q = (PV.d (.bool r), st))) {p58 : (Sl Field) → (Sl Field) → Option (Bool)} (hp58 : ∀ {a0 : Sl Field} {a1 : Sl Field} {r : Bool}, p58 a0 a1 = some r → ∀ {args : List PV}, [PV.d (.sl (E.L_Field a0.l) (E.X_Field a0.x)), PV.d (.sl (E.L_Field a1.l) (E.X_Field a1.x))] = args → ∀ (st : St), Sat (Ω.cf 58 args st) (fun q => q = (PV.d (.bool r), st))) {p75 : Field → Field → Option (Bool)} (hp75 : ∀ {a0 : Field} {a1 : Field} {r : Bool}, p75 a0 a1 = some r → ∀ {args : List PV}, [pv_Field E a0, pv_Field E a1] = args → ∀ (st : St), Sat (Ω.cf 75 args st) (fun q => q = (PV.d (.bool r), st))) {a0 : Value} {a1 : Value} {r : Bool} (h : Pb37 fu p16 p37 p58 p75 a0 a1 = some r) {args : List PV} (ha : [pv_Value E a0, pv_Value E a1] = args) (st : St) :
    Sat (Ω.cf 37 args st) (fun q => q = (PV.d (.bool r), st)) := by
  subst ha
  rcases a0 with ⟨a0_Kind, a0_N, a0_S, ⟨a0_L_l, a0_L_x⟩, ⟨a0_F_l, a0_F_x⟩, a0_Elem, a0_Key, a0_HasKey⟩
  rcases a1 with ⟨a1_Kind, a1_N, a1_S, ⟨a1_L_l, a1_L_x⟩, ⟨a1_F_l, a1_F_x⟩, a1_Elem, a1_Key, a1_HasKey⟩
  rw [cf_body hΩ (f := 37) (fn := Try.f37) (x := c37) rfl rfl c37_ok rfl rfl]
  unfold Pb37 at h
  try dsimp only at h
  conv => arg 1; cbv
  obtain ⟨q, hq13, hz⟩ := Option.bind_eq_some_iff.1 h
  clear h
  have h := hz
  clear hz
  refine sat_grp hΩ ((fun (q : Bool) => (match q with | i12 => ([(0, PV.agg [.d (.int .u8 a0_Kind), .d (.int .i64 a0_N), .d (.str a0_S), .d (.sl (E.L_Value a0_L_l) (E.X_Value a0_L_x)), .d (.sl (E.L_Field a0_F_l) (E.X_Field a0_F_x)), .d (.int .u8 a0_Elem), .d (.str a0_Key), .d (.bool a0_HasKey)]), (1, PV.agg [.d (.int .u8 a1_Kind), .d (.int .i64 a1_N), .d (.str a1_S), .d (.sl (E.L_Value a1_L_l) (E.X_Value a1_L_x)), .d (.sl (E.L_Field a1_F_l) (E.X_Field a1_F_x)), .d (.int .u8 a1_Elem), .d (.str a1_Key), .d (.bool a1_HasKey)]), (2, PV.ptr 0 0 0), (3, PV.ptr 0 1 0), (4, PV.d (.bool i12))], ([X.Obj.box 27 [.d (.int .u8 a0_Kind), .d (.int .i64 a0_N), .d (.str a0_S), .d (.sl (E.L_Value a0_L_l) (E.X_Value a0_L_x)), .d (.sl (E.L_Field a0_F_l) (E.X_Field a0_F_x)), .d (.int .u8 a0_Elem), .d (.str a0_Key), .d (.bool a0_HasKey)], X.Obj.box 27 [.d (.int .u8 a1_Kind), .d (.int .i64 a1_N), .d (.str a1_S), .d (.sl (E.L_Value a1_L_l) (E.X_Value a1_L_x)), .d (.sl (E.L_Field a1_F_l) (E.X_Field a1_F_x)), .d (.int .u8 a1_Elem), .d (.str a1_Key), .d (.bool a1_HasKey)]] : List X.Obj) :: st))) q) (fun k hk => ?_) ?_
  · clear h
    have h := hq13
    clear hq13
    conv => arg 1; cbv
    replace h := bif_cases h
    rcases h with ⟨hb1, h⟩ | ⟨hb1, h⟩
    · refine sat_brt (by first | exact hb1 | ((try clear h); subst_vars; first | exact hb1 | rfl)) ?_
      conv => arg 1; cbv
      refine sat_tick hΩ ?_
      conv => arg 1; cbv
      replace h := bif_cases h
      rcases h with ⟨hb2, h⟩ | ⟨hb2, h⟩
      · refine sat_brt (by first | exact hb2 | ((try clear h); subst_vars; first | exact hb2 | rfl)) ?_
        conv => arg 1; cbv
        replace h := bif_cases h
        rcases h with ⟨hb3, h⟩ | ⟨hb3, h⟩
        · refine sat_brt (by first | exact hb3 | ((try clear h); subst_vars; first | exact hb3 | rfl)) ?_
          conv => arg 1; cbv
          refine sat_tick hΩ ?_
          conv => arg 1; cbv
          obtain ⟨r4, hx5, hz⟩ := Option.bind_eq_some_iff.1 h
          clear h
          have h := hz
          clear hz
          refine sat_call (hp16 hx5 (by (try clear h); subst_vars; rfl) _) ?_
          conv => arg 1; cbv
          replace h := bif_cases h
          rcases h with ⟨hb6, h⟩ | ⟨hb6, h⟩
          · refine sat_brt (by first | exact hb6 | ((try clear h); subst_vars; first | exact hb6 | rfl)) ?_
            conv => arg 1; cbv
            obtain ⟨r7, hx8, hz⟩ := Option.bind_eq_some_iff.1 h
            clear h
            have h := hz
            clear hz
            refine sat_call (hp58 hx8 (by (try clear h); subst_vars; rfl) _) ?_
            conv => arg 1; cbv
            replace h := bif_cases h
            rcases h with ⟨hb9, h⟩ | ⟨hb9, h⟩
            · refine sat_brt (by first | exact hb9 | ((try clear h); subst_vars; first | exact hb9 | rfl)) ?_
              conv => arg 1; cbv
              refine sat_tick hΩ ?_
              conv => arg 1; cbv
              replace h := bif_cases h
              rcases h with ⟨hb10, h⟩ | ⟨hb10, h⟩
              · refine sat_brt (by first | exact hb10 | ((try clear h); subst_vars; first | exact hb10 | rfl)) ?_
                conv => arg 1; cbv
                refine sat_tick hΩ ?_
                conv => arg 1; cbv
                replace h := bif_cases h
                rcases h with ⟨hb11, h⟩ | ⟨hb11, h⟩
                · refine sat_brt (by first | exact hb11 | ((try clear h); subst_vars; first | exact hb11 | rfl)) ?_
                  conv => arg 1; cbv
                  obtain rfl := Option.some.inj h
                  subst_vars
                  first | exact hk | (simp only [ln_set] at hk ⊢; exact hk)
                · refine sat_brf (by first | exact hb11 | ((try clear h); subst_vars; first | exact hb11 | rfl)) ?_
                  conv => arg 1; cbv
                  obtain rfl := Option.some.inj h
                  subst_vars
                  first | exact hk | (simp only [ln_set] at hk ⊢; exact hk)
              · refine sat_brf (by first | exact hb10 | ((try clear h); subst_vars; first | exact hb10 | rfl)) ?_
                conv => arg 1; cbv
                refine sat_tick hΩ ?_
                conv => arg 1; cbv
                obtain rfl := Option.some.inj h
                subst_vars
                first | exact hk | (simp only [ln_set] at hk ⊢; exact hk)
            · refine sat_brf (by first | exact hb9 | ((try clear h); subst_vars; first | exact hb9 | rfl)) ?_
              conv => arg 1; cbv
              refine sat_tick hΩ ?_
              conv => arg 1; cbv
              refine sat_tick hΩ ?_
              conv => arg 1; cbv
              obtain rfl := Option.some.inj h
              subst_vars
              first | exact hk | (simp only [ln_set] at hk ⊢; exact hk)
          · refine sat_brf (by first | exact hb6 | ((try clear h); subst_vars; first | exact hb6 | rfl)) ?_
            conv => arg 1; cbv
            refine sat_tick hΩ ?_
            conv => arg 1; cbv
            refine sat_tick hΩ ?_
            conv => arg 1; cbv
            obtain rfl := Option.some.inj h
            subst_vars
            first | exact hk | (simp only [ln_set] at hk ⊢; exact hk)
        · refine sat_brf (by first | exact hb3 | ((try clear h); subst_vars; first | exact hb3 | rfl)) ?_
          conv => arg 1; cbv
          refine sat_tick hΩ ?_
          conv => arg 1; cbv
          refine sat_tick hΩ ?_
          conv => arg 1; cbv
          refine sat_tick hΩ ?_
          conv => arg 1; cbv
          obtain rfl := Option.some.inj h
          subst_vars
          first | exact hk | (simp only [ln_set] at hk ⊢; exact hk)
      · refine sat_brf (by first | exact hb2 | ((try clear h); subst_vars; first | exact hb2 | rfl)) ?_
        conv => arg 1; cbv
        refine sat_tick hΩ ?_
        conv => arg 1; cbv
        refine sat_tick hΩ ?_
        conv => arg 1; cbv
        refine sat_tick hΩ ?_
        conv => arg 1; cbv
        obtain rfl := Option.some.inj h
        subst_vars
        first | exact hk | (simp only [ln_set] at hk ⊢; exact hk)
    · refine sat_brf (by first | exact hb1 | ((try clear h); subst_vars; first | exact hb1 | rfl)) ?_
      conv => arg 1; cbv
      refine sat_tick hΩ ?_
      conv => arg 1; cbv
      refine sat_tick hΩ ?_
      conv => arg 1; cbv
      refine sat_tick hΩ ?_
      conv => arg 1; cbv
      refine sat_tick hΩ ?_
      conv => arg 1; cbv
      obtain rfl := Option.some.inj h
      subst_vars
      first | exact hk | (simp only [ln_set] at hk ⊢; exact hk)
  · clear hq13
    obtain ⟨i12, hqq⟩ : ∃ x, x = q := ⟨_, rfl⟩
    subst hqq
    try dsimp only at h
    conv => arg 1; cbv
    obtain rfl := Option.some.inj h
    subst_vars
    exact sat_pure rfl
set_option maxHeartbeats 4000000 in
theorem okb58 {Ω : Om} {E : Enc} (hΩ : real (call S) = Ω) (hE : theEnc = E) {fu : Nat} {p16 : (Sl Value) → (Sl Value) → Option (Bool)} (hp16 : ∀ {a0 : Sl Value} {a1 : Sl Value} {r : Bool}, p16 a0 a1 = some r → ∀ {args : List PV}, [PV.d (.sl (E.L_Value a0.l) (E.X_Value a0.x)), PV.d (.sl (E.L_Value a1.l) (E.X_Value a1.x))] = args → ∀ (st : St), Sat (Ω.cf 16 args st) (fun q => q = (PV.d (.bool r), st))) {p37 : Value → Value → Option (Bool)} (hp37 : ∀ {a0 : Value} {a1 : Value} {r : Bool}, p37 a0 a1 = some r → ∀ {args : List PV}, [pv_Value E a0, pv_Value E a1] = args → ∀ (st : St), Sat (Ω.cf 37 args st) (fun q => q = (PV.d (.bool r), st))) {p58 : (Sl Field) → (Sl Field) → Option (Bool)} (hp58 : ∀ {a0 : Sl Field} {a1 : Sl Field} {r : Bool}, p58 a0 a1 = some r → ∀ {args : List PV}, [PV.d (.sl (E.L_Field a0.l) (E.X_Field a0.x)), PV.d (.sl (E.L_Field a1.l) (E.X_Field a1.x))] = args → ∀ (st : St), Sat (Ω.cf 58 args st) (fun q => q = (PV.d (.bool r), st))) {p75 : Field → Field → Option (Bool)} (hp75 : ∀ {a0 : Field} {a1 : Field} {r : Bool}, p75 a0 a1 = some r → ∀ {args : List PV}, [pv_Field E a0, pv_Field E a1] = args → ∀ (st : St), Sat (Ω.cf 75 args st) (fun q => q = (PV.d (.bool r), st))) {a0 : Sl Field} {a1 : Sl Field} {r : Bool} (h : Pb58 fu p16 p37 p58 p75 a0 a1 = some r) {args : List PV} (ha : [PV.d (.sl (E.L_Field a0.l) (E.X_Field a0.x)), PV.d (.sl (E.L_Field a1.l) (E.X_Field a1.x))] = args) (st : St) :
    Sat (Ω.cf 58 args st) (fun q => q = (PV.d (.bool r), st)) := by
  subst ha
  rcases a0 with ⟨a0_l, _ | a0_h⟩
  · rcases a1 with ⟨a1_l, a1_x⟩
    rw [cf_body hΩ (f := 58) (fn := Try.f58) (x := c58) rfl rfl c58_ok rfl rfl]
    unfold Pb58 at h
    try dsimp only at h
    dsimp only []
    rw [show E.X_Field none = none from by rw [(ro_Field hE).2.1]; rfl]
    conv => arg 1; cbv
    refine sat_in hΩ ?_
    conv => arg 1; cbv
    refine sat_len hΩ (ro_Field hE) a0_l (by first | rfl | ((try clear h); subst_vars; rfl)) fun n1 hn2 => ?_
    conv => arg 1; cbv
    refine sat_len hΩ (ro_Field hE) a1_l (by first | rfl | ((try clear h); subst_vars; rfl)) fun n3 hn4 => ?_
    conv => arg 1; cbv
    replace h := bif_cases h
    rcases h with ⟨hb5, h⟩ | ⟨hb5, h⟩
    · cases h
    refine sat_brf (by first | exact hb5 | ((try clear h); subst_vars; first | exact hb5 | rfl)) ?_
    conv => arg 1; cbv
    refine sat_in hΩ ?_
    conv => arg 1; cbv
    obtain rfl := Option.some.inj h
    subst_vars
    exact sat_pure rfl
  · rcases a1 with ⟨a1_l, a1_x⟩
    rw [cf_body hΩ (f := 58) (fn := Try.f58) (x := c58) rfl rfl c58_ok rfl rfl]
    unfold Pb58 at h
    try dsimp only at h
    dsimp only []
    rw [show E.X_Field (some a0_h) = some (E.L_Field a0_h) from by rw [(ro_Field hE).2.1]; rfl]
    conv => arg 1; cbv
    obtain ⟨q, hq52, hz⟩ := Option.bind_eq_some_iff.1 h
    clear h
    have h := hz
    clear hz
    refine sat_grp hΩ ((fun (q : Bool) => (match q with | i17 => ([(0, PV.d (.sl (E.L_Field a0_l) (some (E.L_Field a0_h)))), (1, PV.d (.sl (E.L_Field a1_l) (E.X_Field a1_x))), (4, PV.d (.bool false)), (18, PV.d (.bool i17))], ([] : List X.Obj) :: st))) q) (fun k hk => ?_) ?_
    · clear h
      have h := hq52
      clear hq52
      conv => arg 1; cbv
      refine sat_len hΩ (ro_Field hE) a0_l (by first | rfl | ((try clear h); subst_vars; rfl)) fun n6 hn7 => ?_
      conv => arg 1; cbv
      refine sat_len hΩ (ro_Field hE) a1_l (by first | rfl | ((try clear h); subst_vars; rfl)) fun n8 hn9 => ?_
      conv => arg 1; cbv
      replace h := bif_cases h
      rcases h with ⟨hb10, h⟩ | ⟨hb10, h⟩
      · refine sat_brt (by first | exact hb10 | ((try clear h); subst_vars; first | exact hb10 | rfl)) ?_
        conv => arg 1; cbv
        refine sat_cat hΩ (ro_Field hE) a0_l a0_h (by first | rfl | ((try clear h); subst_vars; rfl)) (by first | rfl | ((try clear h); subst_vars; rfl)) fun l11 hl12 n13 hn14 => ?_
        conv => arg 1; cbv
        refine sat_len hΩ (ro_Field hE) a1_l (by first | rfl | ((try clear h); subst_vars; rfl)) fun n15 hn16 => ?_
        conv => arg 1; cbv
        obtain rfl := Option.some.inj h
        subst_vars
        first | exact hk | (simp only [ln_set] at hk ⊢; exact hk)
      · refine sat_brf (by first | exact hb10 | ((try clear h); subst_vars; first | exact hb10 | rfl)) ?_
        conv => arg 1; cbv
        obtain rfl := Option.some.inj h
        subst_vars
        first | exact hk | (simp only [ln_set] at hk ⊢; exact hk)
    · clear hq52
      obtain ⟨i17, hqq⟩ : ∃ x, x = q := ⟨_, rfl⟩
      subst hqq
      try dsimp only at h
      conv => arg 1; cbv
      refine sat_in hΩ ?_
      conv => arg 1; cbv
      replace h := bif_cases h
      rcases h with ⟨hb18, h⟩ | ⟨hb18, h⟩
      · refine sat_brt (by first | exact hb18 | ((try clear h); subst_vars; first | exact hb18 | rfl)) ?_
        conv => arg 1; cbv
        obtain rfl := Option.some.inj h
        subst_vars
        exact sat_pure rfl
      · refine sat_brf (by first | exact hb18 | ((try clear h); subst_vars; first | exact hb18 | rfl)) ?_
        conv => arg 1; cbv
        obtain ⟨q, hl30, hz⟩ := Option.bind_eq_some_iff.1 h
        clear h
        have h := hz
        clear hz
        refine sat_loop hΩ (fun (a : Int) => (match a with | i19 => ([(0, PV.d (.sl (E.L_Field a0_l) (some (E.L_Field a0_h)))), (1, PV.d (.sl (E.L_Field a1_l) (E.X_Field a1_x))), (4, PV.d (.bool false)), (5, PV.d (.int .i64 i19))], ([] : List X.Obj) :: st))) (fun (q : Int ⊕ Int) => (match q with | .inl o31 => (.exit 0, [(0, PV.d (.sl (E.L_Field a0_l) (some (E.L_Field a0_h)))), (1, PV.d (.sl (E.L_Field a1_l) (E.X_Field a1_x))), (4, PV.d (.bool false)), (5, PV.d (.int .i64 o31))], ([] : List X.Obj) :: st) | .inr o51 => (.ret, [(0, PV.d (.sl (E.L_Field a0_l) (some (E.L_Field a0_h)))), (1, PV.d (.sl (E.L_Field a1_l) (E.X_Field a1_x))), (4, PV.d (.bool false)), (5, PV.d (.int .i64 o51))], ([] : List X.Obj) :: st))) 0 hl30 (by first | rfl | ((try clear h); subst_vars; rfl) | ((try clear h); subst_vars; simp only [ln_set])) ?_ ?_
        · clear h hl30
          rintro i19 q h
          unfold P58_s0 at h
          dsimp only at h
          conv => arg 1; cbv
          refine sat_len hΩ (ro_Field hE) a1_l (by first | rfl | ((try clear h); subst_vars; rfl)) fun n20 hn21 => ?_
          conv => arg 1; cbv
          refine sat_in hΩ ?_
          conv => arg 1; cbv
          replace h := bif_cases h
          rcases h with ⟨hb22, h⟩ | ⟨hb22, h⟩
          · refine sat_brt (by first | exact hb22 | ((try clear h); subst_vars; first | exact hb22 | rfl)) ?_
            conv => arg 1; cbv
            refine sat_true (fits_l hΩ (ro_Field hE) a0_l (by first | rfl | ((try clear h); subst_vars; rfl))) ?_
            conv => arg 1; cbv
            obtain ⟨⟨x23_Name, ⟨x23_Value__Kind, x23_Value__N, x23_Value__S, ⟨x23_Value__L_l, x23_Value__L_x⟩, ⟨x23_Value__F_l, x23_Value__F_x⟩, x23_Value__Elem, x23_Value__Key, x23_Value__HasKey⟩⟩, hx24, hz⟩ := Option.bind_eq_some_iff.1 h
            clear h
            have h := hz
            clear hz
            try dsimp only at h
            refine sat_bind (nth_ok hΩ (ro_Field hE) hx24 (by first | rfl | ((try clear h); subst_vars; rfl)) (by first | rfl | ((try clear h); subst_vars; rfl))) ?_
            conv => arg 1; cbv
            refine sat_true (fits_l hΩ (ro_Field hE) a1_l (by first | rfl | ((try clear h); subst_vars; rfl))) ?_
            conv => arg 1; cbv
            obtain ⟨⟨x25_Name, ⟨x25_Value__Kind, x25_Value__N, x25_Value__S, ⟨x25_Value__L_l, x25_Value__L_x⟩, ⟨x25_Value__F_l, x25_Value__F_x⟩, x25_Value__Elem, x25_Value__Key, x25_Value__HasKey⟩⟩, hx26, hz⟩ := Option.bind_eq_some_iff.1 h
            clear h
            have h := hz
            clear hz
            try dsimp only at h
            refine sat_bind (nth_ok hΩ (ro_Field hE) hx26 (by first | rfl | ((try clear h); subst_vars; rfl)) (by first | rfl | ((try clear h); subst_vars; rfl))) ?_
            conv => arg 1; cbv
            obtain ⟨r27, hx28, hz⟩ := Option.bind_eq_some_iff.1 h
            clear h
            have h := hz
            clear hz
            refine sat_call (hp75 hx28 (by (try clear h); subst_vars; rfl) _) ?_
            conv => arg 1; cbv
            refine sat_true (same_ok hΩ _) ?_
            conv => arg 1; cbv
            refine sat_in hΩ ?_
            conv => arg 1; cbv
            replace h := bif_cases h
            rcases h with ⟨hb29, h⟩ | ⟨hb29, h⟩
            · refine sat_brt (by first | exact hb29 | ((try clear h); subst_vars; first | exact hb29 | rfl)) ?_
              conv => arg 1; cbv
              obtain rfl := Option.some.inj h
              subst_vars
              first | exact sat_pure (.inr ⟨rfl, rfl⟩) | (refine sat_pure (.inr ⟨rfl, ?_⟩); dsimp only; simp only [ln_set]; rfl)
            · refine sat_brf (by first | exact hb29 | ((try clear h); subst_vars; first | exact hb29 | rfl)) ?_
              conv => arg 1; cbv
              obtain rfl := Option.some.inj h
              subst_vars
              first | exact sat_pure ⟨rfl, rfl, rfl⟩ | (refine sat_pure ⟨rfl, ?_, ?_⟩ <;> first | rfl | (dsimp only; simp only [ln_set]; rfl))
          · refine sat_brf (by first | exact hb22 | ((try clear h); subst_vars; first | exact hb22 | rfl)) ?_
            conv => arg 1; cbv
            obtain rfl := Option.some.inj h
            subst_vars
            first | exact sat_pure (.inl ⟨⟨_, rfl⟩, rfl⟩) | (refine sat_pure (.inl ⟨⟨_, rfl⟩, ?_⟩); dsimp only; simp only [ln_set]; rfl)
        · clear hl30
          rcases q with o31 | o51
          · dsimp only at h
            conv => arg 1; cbv
            refine sat_len hΩ (ro_Field hE) a1_l (by first | rfl | ((try clear h); subst_vars; rfl)) fun n32 hn33 => ?_
            conv => arg 1; cbv
            refine sat_true (fits_x hΩ (ro_Field hE) a0_l (some a0_h) (by first | rfl | ((try clear h); subst_vars; rfl)) (by first | rfl | ((try clear h); subst_vars; rfl))) ?_
            conv => arg 1; cbv
            refine sat_len hΩ (ro_Field hE) a0_l (by first | rfl | ((try clear h); subst_vars; rfl)) fun n34 hn35 => ?_
            conv => arg 1; cbv
            refine sat_cat hΩ (ro_Field hE) a0_l a0_h (by first | rfl | ((try clear h); subst_vars; rfl)) (by first | rfl | ((try clear h); subst_vars; rfl)) fun l36 hl37 n38 hn39 => ?_
            conv => arg 1; cbv
            replace h := bif_some h
            obtain ⟨hb40, h⟩ := h
            refine sat_true (by first | exact hb40 | ((try clear h); subst_vars; first | exact hb40 | rfl)) ?_
            conv => arg 1; cbv
            replace h := bif_some h
            obtain ⟨hb41, h⟩ := h
            refine sat_true (by first | exact hb41 | ((try clear h); subst_vars; first | exact hb41 | rfl)) ?_
            conv => arg 1; cbv
            replace h := bif_some h
            obtain ⟨hb42, h⟩ := h
            refine sat_true (by first | exact hb42 | ((try clear h); subst_vars; first | exact hb42 | rfl)) ?_
            conv => arg 1; cbv
            refine sat_cut hΩ (ro_Field hE) (a0_l ++ a0_h) 0 (w64 ((ln a1_l) + 1)) (by first | rfl | ((try clear h); subst_vars; rfl)) (by first | rfl | ((try clear h); subst_vars; rfl)) (by first | rfl | ((try clear h); subst_vars; rfl)) fun l43 hl44 => ?_
            conv => arg 1; cbv
            refine sat_cut hΩ (ro_Field hE) (a0_l ++ a0_h) (w64 ((ln a1_l) + 1)) (ln (a0_l ++ a0_h)) (by first | rfl | ((try clear h); subst_vars; rfl)) (by first | rfl | ((try clear h); subst_vars; rfl)) (by first | rfl | ((try clear h); subst_vars; rfl)) fun l45 hl46 => ?_
            conv => arg 1; cbv
            refine sat_len hΩ (ro_Field hE) a1_l (by first | rfl | ((try clear h); subst_vars; rfl)) fun n47 hn48 => ?_
            conv => arg 1; cbv
            refine sat_true (fits_l hΩ (ro_Field hE) (cut (a0_l ++ a0_h) 0 (w64 ((ln a1_l) + 1))) (by first | rfl | ((try clear h); subst_vars; rfl))) ?_
            conv => arg 1; cbv
            obtain ⟨⟨x49_Name, ⟨x49_Value__Kind, x49_Value__N, x49_Value__S, ⟨x49_Value__L_l, x49_Value__L_x⟩, ⟨x49_Value__F_l, x49_Value__F_x⟩, x49_Value__Elem, x49_Value__Key, x49_Value__HasKey⟩⟩, hx50, hz⟩ := Option.bind_eq_some_iff.1 h
            clear h
            have h := hz
            clear hz
            try dsimp only at h
            refine sat_bind (nth_ok hΩ (ro_Field hE) hx50 (by first | rfl | ((try clear h); subst_vars; rfl)) (by first | rfl | ((try clear h); subst_vars; rfl))) ?_
            conv => arg 1; cbv
            obtain rfl := Option.some.inj h
            subst_vars
            exact sat_pure rfl
          · dsimp only at h
            conv => arg 1; cbv
            obtain rfl := Option.some.inj h
            subst_vars
            exact sat_pure rfl
set_option maxHeartbeats 4000000 in
theorem okb75 {Ω : Om} {E : Enc} (hΩ : real (call S) = Ω) (hE : theEnc = E) {fu : Nat} {p16 : (Sl Value) → (Sl Value) → Option (Bool)} (hp16 : ∀ {a0 : Sl Value} {a1 : Sl Value} {r : Bool}, p16 a0 a1 = some r → ∀ {args : List PV}, [PV.d (.sl (E.L_Value a0.l) (E.X_Value a0.x)), PV.d (.sl (E.L_Value a1.l) (E.X_Value a1.x))] = args → ∀ (st : St), Sat (Ω.cf 16 args st) (fun q => q = (PV.d (.bool r), st))) {p37 : Value → Value → Option (Bool)} (hp37 : ∀ {a0 : Value} {a1 : Value} {r : Bool}, p37 a0 a1 = some r → ∀ {args : List PV}, [pv_Value E a0, pv_Value E a1] = args → ∀ (st : St), Sat (Ω.cf 37 args st) (fun q => q = (PV.d (.bool r), st))) {p58 : (Sl Field) → (Sl Field) → Option (Bool)} (hp58 : ∀ {a0 : Sl Field} {a1 : Sl Field} {r : Bool}, p58 a0 a1 = some r → ∀ {args : List PV}, [PV.d (.sl (E.L_Field a0.l) (E.X_Field a0.x)), PV.d (.sl (E.L_Field a1.l) (E.X_Field a1.x))] = args → ∀ (st : St), Sat (Ω.cf 58 args st) (fun q => q = (PV.d (.bool r), st))) {p75 : Field → Field → Option (Bool)} (hp75 : ∀ {a0 : Field} {a1 : Field} {r : Bool}, p75 a0 a1 = some r → ∀ {args : List PV}, [pv_Field E a0, pv_Field E a1] = args → ∀ (st : St), Sat (Ω.cf 75 args st) (fun q => q = (PV.d (.bool r), st))) {a0 : Field} {a1 : Field} {r : Bool} (h : Pb75 fu p16 p37 p58 p75 a0 a1 = some r) {args : List PV} (ha : [pv_Field E a0, pv_Field E a1] = args) (st : St) :
    Sat (Ω.cf 75 args st) (fun q => q = (PV.d (.bool r), st)) := by
  subst ha
  rcases a0 with ⟨a0_Name, ⟨a0_Value__Kind, a0_Value__N, a0_Value__S, ⟨a0_Value__L_l, a0_Value__L_x⟩, ⟨a0_Value__F_l, a0_Value__F_x⟩, a0_Value__Elem, a0_Value__Key, a0_Value__HasKey⟩⟩
  rcases a1 with ⟨a1_Name, ⟨a1_Value__Kind, a1_Value__N, a1_Value__S, ⟨a1_Value__L_l, a1_Value__L_x⟩, ⟨a1_Value__F_l, a1_Value__F_x⟩, a1_Value__Elem, a1_Value__Key, a1_Value__HasKey⟩⟩
  rw [cf_body hΩ (f := 75) (fn := Try.f75) (x := c75) rfl rfl c75_ok rfl rfl]
  unfold Pb75 at h
  try dsimp only at h
  conv => arg 1; cbv
  obtain ⟨q, hq5, hz⟩ := Option.bind_eq_some_iff.1 h
  clear h
  have h := hz
  clear hz
  refine sat_grp hΩ ((fun (q : Bool) => (match q with | i4 => ([(0, PV.agg [.d (.str a0_Name), .d (.int .u8 a0_Value__Kind), .d (.int .i64 a0_Value__N), .d (.str a0_Value__S), .d (.sl (E.L_Value a0_Value__L_l) (E.X_Value a0_Value__L_x)), .d (.sl (E.L_Field a0_Value__F_l) (E.X_Field a0_Value__F_x)), .d (.int .u8 a0_Value__Elem), .d (.str a0_Value__Key), .d (.bool a0_Value__HasKey)]), (1, PV.agg [.d (.str a1_Name), .d (.int .u8 a1_Value__Kind), .d (.int .i64 a1_Value__N), .d (.str a1_Value__S), .d (.sl (E.L_Value a1_Value__L_l) (E.X_Value a1_Value__L_x)), .d (.sl (E.L_Field a1_Value__F_l) (E.X_Field a1_Value__F_x)), .d (.int .u8 a1_Value__Elem), .d (.str a1_Value__Key), .d (.bool a1_Value__HasKey)]), (2, PV.ptr 0 0 0), (3, PV.ptr 0 1 0), (4, PV.d (.bool i4))], ([X.Obj.box 49 [.d (.str a0_Name), .d (.int .u8 a0_Value__Kind), .d (.int .i64 a0_Value__N), .d (.str a0_Value__S), .d (.sl (E.L_Value a0_Value__L_l) (E.X_Value a0_Value__L_x)), .d (.sl (E.L_Field a0_Value__F_l) (E.X_Field a0_Value__F_x)), .d (.int .u8 a0_Value__Elem), .d (.str a0_Value__Key), .d (.bool a0_Value__HasKey)], X.Obj.box 49 [.d (.str a1_Name), .d (.int .u8 a1_Value__Kind), .d (.int .i64 a1_Value__N), .d (.str a1_Value__S), .d (.sl (E.L_Value a1_Value__L_l) (E.X_Value a1_Value__L_x)), .d (.sl (E.L_Field a1_Value__F_l) (E.X_Field a1_Value__F_x)), .d (.int .u8 a1_Value__Elem), .d (.str a1_Value__Key), .d (.bool a1_Value__HasKey)]] : List X.Obj) :: st))) q) (fun k hk => ?_) ?_
  · clear h
    have h := hq5
    clear hq5
    conv => arg 1; cbv
    replace h := bif_cases h
    rcases h with ⟨hb1, h⟩ | ⟨hb1, h⟩
    · refine sat_brt (by first | exact hb1 | ((try clear h); subst_vars; first | exact hb1 | rfl)) ?_
      conv => arg 1; cbv
      obtain ⟨r2, hx3, hz⟩ := Option.bind_eq_some_iff.1 h
      clear h
      have h := hz
      clear hz
      refine sat_call (hp37 hx3 (by (try clear h); subst_vars; rfl) _) ?_
      conv => arg 1; cbv
      refine sat_tick hΩ ?_
      conv => arg 1; cbv
      obtain rfl := Option.some.inj h
      subst_vars
      first | exact hk | (simp only [ln_set] at hk ⊢; exact hk)
    · refine sat_brf (by first | exact hb1 | ((try clear h); subst_vars; first | exact hb1 | rfl)) ?_
      conv => arg 1; cbv
      refine sat_tick hΩ ?_
      conv => arg 1; cbv
      obtain rfl := Option.some.inj h
      subst_vars
      first | exact hk | (simp only [ln_set] at hk ⊢; exact hk)
  · clear hq5
    obtain ⟨i4, hqq⟩ : ∃ x, x = q := ⟨_, rfl⟩
    subst hqq
    try dsimp only at h
    conv => arg 1; cbv
    obtain rfl := Option.some.inj h
    subst_vars
    exact sat_pure rfl
theorem okr16 {Ω : Om} {E : Enc} (hΩ : real (call S) = Ω) (hE : theEnc = E) : ∀ fu,
    (∀ {a0 : Sl Value} {a1 : Sl Value} {r : Bool}, P16 fu a0 a1 = some r → ∀ {args : List PV}, [PV.d (.sl (E.L_Value a0.l) (E.X_Value a0.x)), PV.d (.sl (E.L_Value a1.l) (E.X_Value a1.x))] = args → ∀ (st : St), Sat (Ω.cf 16 args st) (fun q => q = (PV.d (.bool r), st))) ∧
    (∀ {a0 : Value} {a1 : Value} {r : Bool}, P37 fu a0 a1 = some r → ∀ {args : List PV}, [pv_Value E a0, pv_Value E a1] = args → ∀ (st : St), Sat (Ω.cf 37 args st) (fun q => q = (PV.d (.bool r), st))) ∧
    (∀ {a0 : Sl Field} {a1 : Sl Field} {r : Bool}, P58 fu a0 a1 = some r → ∀ {args : List PV}, [PV.d (.sl (E.L_Field a0.l) (E.X_Field a0.x)), PV.d (.sl (E.L_Field a1.l) (E.X_Field a1.x))] = args → ∀ (st : St), Sat (Ω.cf 58 args st) (fun q => q = (PV.d (.bool r), st))) ∧
    (∀ {a0 : Field} {a1 : Field} {r : Bool}, P75 fu a0 a1 = some r → ∀ {args : List PV}, [pv_Field E a0, pv_Field E a1] = args → ∀ (st : St), Sat (Ω.cf 75 args st) (fun q => q = (PV.d (.bool r), st))) := by
  intro fu
  induction fu with
  | zero => exact ⟨(fun h => (by cases h)), (fun h => (by cases h)), (fun h => (by cases h)), (fun h => (by cases h))⟩
  | succ fu ih =>
    obtain ⟨i16, i37, i58, i75⟩ := ih
    exact ⟨(fun h => @fun args ha st => okb16 (fu := fu) hΩ hE i16 i37 i58 i75 h ha st), (fun h => @fun args ha st => okb37 (fu := fu) hΩ hE i16 i37 i58 i75 h ha st), (fun h => @fun args ha st => okb58 (fu := fu) hΩ hE i16 i37 i58 i75 h ha st), (fun h => @fun args ha st => okb75 (fu := fu) hΩ hE i16 i37 i58 i75 h ha st)⟩
theorem ok16 {Ω : Om} {E : Enc} (hΩ : real (call S) = Ω) (hE : theEnc = E) {fu : Nat} : ∀ {a0 : Sl Value} {a1 : Sl Value} {r : Bool}, P16 fu a0 a1 = some r → ∀ {args : List PV}, [PV.d (.sl (E.L_Value a0.l) (E.X_Value a0.x)), PV.d (.sl (E.L_Value a1.l) (E.X_Value a1.x))] = args → ∀ (st : St), Sat (Ω.cf 16 args st) (fun q => q = (PV.d (.bool r), st)) := (okr16 hΩ hE fu).1
theorem ok37 {Ω : Om} {E : Enc} (hΩ : real (call S) = Ω) (hE : theEnc = E) {fu : Nat} : ∀ {a0 : Value} {a1 : Value} {r : Bool}, P37 fu a0 a1 = some r → ∀ {args : List PV}, [pv_Value E a0, pv_Value E a1] = args → ∀ (st : St), Sat (Ω.cf 37 args st) (fun q => q = (PV.d (.bool r), st)) := (okr16 hΩ hE fu).2.1
theorem ok58 {Ω : Om} {E : Enc} (hΩ : real (call S) = Ω) (hE : theEnc = E) {fu : Nat} : ∀ {a0 : Sl Field} {a1 : Sl Field} {r : Bool}, P58 fu a0 a1 = some r → ∀ {args : List PV}, [PV.d (.sl (E.L_Field a0.l) (E.X_Field a0.x)), PV.d (.sl (E.L_Field a1.l) (E.X_Field a1.x))] = args → ∀ (st : St), Sat (Ω.cf 58 args st) (fun q => q = (PV.d (.bool r), st)) := (okr16 hΩ hE fu).2.2.1
theorem ok75 {Ω : Om} {E : Enc} (hΩ : real (call S) = Ω) (hE : theEnc = E) {fu : Nat} : ∀ {a0 : Field} {a1 : Field} {r : Bool}, P75 fu a0 a1 = some r → ∀ {args : List PV}, [pv_Field E a0, pv_Field E a1] = args → ∀ (st : St), Sat (Ω.cf 75 args st) (fun q => q = (PV.d (.bool r), st)) := (okr16 hΩ hE fu).2.2.2
theorem ok17 {Ω : Om} {E : Enc} (hΩ : real (call S) = Ω) (hE : theEnc = E) {fu : Nat} {r : Bool} (h : P17 fu = some r) {args : List PV} (ha : [] = args) (st : St) :
    Sat (Ω.cf 17 args st) (fun q => q = (PV.d (.bool r), st)) := by
  subst ha
  subst hΩ
  obtain rfl := Option.some.inj h
  exact ⟨_, closed_call (S := S) (f := 17) rfl st, rfl⟩
set_option maxHeartbeats 4000000 in
theorem ok5 {Ω : Om} {E : Enc} (hΩ : real (call S) = Ω) (hE : theEnc = E) {fu : Nat} {a0 : Sl Value} {a1 : Sl Value} {r : Bool} (h : P5 fu a0 a1 = some r) {args : List PV} (ha : [PV.d (.sl (E.L_Value a0.l) (E.X_Value a0.x)), PV.d (.sl (E.L_Value a1.l) (E.X_Value a1.x))] = args) (st : St) :
    Sat (Ω.cf 5 args st) (fun q => q = (PV.d (.bool r), st)) := by
  subst ha
  rcases a0 with ⟨a0_l, a0_x⟩
  rcases a1 with ⟨a1_l, a1_x⟩
  rw [cf_body hΩ (f := 5) (fn := Try.f5) (x := c5) rfl rfl c5_ok rfl rfl]
  unfold P5 at h
  try dsimp only at h
  conv => arg 1; cbv
  obtain ⟨⟨r1_l, r1_x⟩, hx2, hz⟩ := Option.bind_eq_some_iff.1 h
  clear h
  have h := hz
  clear hz
  try dsimp only at h
  refine sat_call (ok13 hΩ hE hx2 (by (try clear h); subst_vars; rfl) _) ?_
  conv => arg 1; cbv
  obtain ⟨⟨r3_l, r3_x⟩, hx4, hz⟩ := Option.bind_eq_some_iff.1 h
  clear h
  have h := hz
  clear hz
  try dsimp only at h
  refine sat_call (ok13 hΩ hE hx4 (by (try clear h); subst_vars; rfl) _) ?_
  conv => arg 1; cbv
  obtain ⟨q, hq19, hz⟩ := Option.bind_eq_some_iff.1 h
  clear h
  have h := hz
  clear hz
  refine sat_grp hΩ ((fun (q : Bool) => (match q with | i18 => ([(0, PV.d (.sl (E.L_Value a0_l) (E.X_Value a0_x))), (1, PV.d (.sl (E.L_Value a1_l) (E.X_Value a1_x))), (4, PV.d (.bool i18)), (5, PV.d (.sl (E.L_Value r1_l) (E.X_Value r1_x))), (6, PV.d (.sl (E.L_Value r3_l) (E.X_Value r3_x)))], ([] : List X.Obj) :: st))) q) (fun k hk => ?_) ?_
  · clear h
    have h := hq19
    clear hq19
    conv => arg 1; cbv
    obtain ⟨r5, hx6, hz⟩ := Option.bind_eq_some_iff.1 h
    clear h
    have h := hz
    clear hz
    refine sat_call (ok14 hΩ hE hx6 (by (try clear h); subst_vars; rfl) _) ?_
    conv => arg 1; cbv
    obtain ⟨r7, hx8, hz⟩ := Option.bind_eq_some_iff.1 h
    clear h
    have h := hz
    clear hz
    refine sat_call (ok15 hΩ hE hx8 (by (try clear h); subst_vars; rfl) _) ?_
    conv => arg 1; cbv
    replace h := bif_cases h
    rcases h with ⟨hb9, h⟩ | ⟨hb9, h⟩
    · refine sat_brt (by first | exact hb9 | ((try clear h); subst_vars; first | exact hb9 | rfl)) ?_
      conv => arg 1; cbv
      obtain ⟨r10, hx11, hz⟩ := Option.bind_eq_some_iff.1 h
      clear h
      have h := hz
      clear hz
      refine sat_call (ok16 hΩ hE hx11 (by (try clear h); subst_vars; rfl) _) ?_
      conv => arg 1; cbv
      refine sat_tick hΩ ?_
      conv => arg 1; cbv
      replace h := bif_cases h
      rcases h with ⟨hb12, h⟩ | ⟨hb12, h⟩
      · refine sat_brt (by first | exact hb12 | ((try clear h); subst_vars; first | exact hb12 | rfl)) ?_
        conv => arg 1; cbv
        obtain ⟨r13, hx14, hz⟩ := Option.bind_eq_some_iff.1 h
        clear h
        have h := hz
        clear hz
        refine sat_call (ok16 hΩ hE hx14 (by (try clear h); subst_vars; rfl) _) ?_
        conv => arg 1; cbv
        replace h := bif_cases h
        rcases h with ⟨hb15, h⟩ | ⟨hb15, h⟩
        · refine sat_brt (by first | exact hb15 | ((try clear h); subst_vars; first | exact hb15 | rfl)) ?_
          conv => arg 1; cbv
          obtain ⟨r16, hx17, hz⟩ := Option.bind_eq_some_iff.1 h
          clear h
          have h := hz
          clear hz
          refine sat_call (ok17 hΩ hE hx17 (by (try clear h); subst_vars; rfl) _) ?_
          conv => arg 1; cbv
          obtain rfl := Option.some.inj h
          subst_vars
          first | exact hk | (simp only [ln_set] at hk ⊢; exact hk)
        · refine sat_brf (by first | exact hb15 | ((try clear h); subst_vars; first | exact hb15 | rfl)) ?_
          conv => arg 1; cbv
          obtain rfl := Option.some.inj h
          subst_vars
          first | exact hk | (simp only [ln_set] at hk ⊢; exact hk)
      · refine sat_brf (by first | exact hb12 | ((try clear h); subst_vars; first | exact hb12 | rfl)) ?_
        conv => arg 1; cbv
        obtain rfl := Option.some.inj h
        subst_vars
        first | exact hk | (simp only [ln_set] at hk ⊢; exact hk)
    · refine sat_brf (by first | exact hb9 | ((try clear h); subst_vars; first | exact hb9 | rfl)) ?_
      conv => arg 1; cbv
      refine sat_tick hΩ ?_
      conv => arg 1; cbv
      obtain rfl := Option.some.inj h
      subst_vars
      first | exact hk | (simp only [ln_set] at hk ⊢; exact hk)
  · clear hq19
    obtain ⟨i18, hqq⟩ : ∃ x, x = q := ⟨_, rfl⟩
    subst hqq
    try dsimp only at h
    conv => arg 1; cbv
    obtain rfl := Option.some.inj h
    subst_vars
    exact sat_pure rfl
end Go.Proofs.Ytipkggkbldgmjaa
