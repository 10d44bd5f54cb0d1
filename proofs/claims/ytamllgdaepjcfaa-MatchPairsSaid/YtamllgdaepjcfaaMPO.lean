/- The interpreter computes just these functions: printed by a small program. -/
import Derived.Test.YtamllgdaepjcfaaMPD
namespace Go.Proofs.Ytamllgdaepjcfaa
open Go Go.X
set_option linter.unusedVariables false
set_option linter.unusedSimpArgs false
set_option maxRecDepth 100000
set_option maxHeartbeats 4000000 in
theorem ok17 {Ω : Om} {E : Enc} (hΩ : real (call S) = Ω) (hE : theEnc = E) {fu : Nat} {a0 : Child} {a1 : Child} {r : Bool} (h : P17 fu a0 a1 = some r) {args : List PV} (ha : [pv_Child E a0, pv_Child E a1] = args) (st : St) :
    Sat (Ω.cf 17 args st) (fun q => q = (PV.d (.bool r), st)) := by
  subst ha
  rcases a0 with ⟨a0_Key, a0_Kind, a0_Name, ⟨a0_Value_Kind, a0_Value_N, a0_Value_S, ⟨a0_Value_L_l, a0_Value_L_x⟩, ⟨a0_Value_F_l, a0_Value_F_x⟩, a0_Value_Elem, a0_Value_Key, a0_Value_HasKey⟩⟩
  rcases a1 with ⟨a1_Key, a1_Kind, a1_Name, ⟨a1_Value_Kind, a1_Value_N, a1_Value_S, ⟨a1_Value_L_l, a1_Value_L_x⟩, ⟨a1_Value_F_l, a1_Value_F_x⟩, a1_Value_Elem, a1_Value_Key, a1_Value_HasKey⟩⟩
  rw [cf_body hΩ (f := 17) (fn := Try.f17) (x := c17) rfl rfl c17_ok rfl]
  unfold P17 at h
  try dsimp only at h
  conv => arg 1; cbv
  replace h := bif_cases h
  rcases h with ⟨hb1, h⟩ | ⟨hb1, h⟩
  · refine sat_brt (by first | exact hb1 | (subst_vars; first | exact hb1 | rfl)) ?_
    conv => arg 1; cbv
    refine sat_tick hΩ ?_
    conv => arg 1; cbv
    obtain rfl := Option.some.inj h
    subst_vars
    exact sat_pure rfl
  · refine sat_brf (by first | exact hb1 | (subst_vars; first | exact hb1 | rfl)) ?_
    conv => arg 1; cbv
    refine sat_tick hΩ ?_
    conv => arg 1; cbv
    obtain rfl := Option.some.inj h
    subst_vars
    exact sat_pure rfl
set_option maxHeartbeats 4000000 in
theorem ok26 {Ω : Om} {E : Enc} (hΩ : real (call S) = Ω) (hE : theEnc = E) {fu : Nat} {a0 : Sl Child} {a1 : Sl Child} {r : Sl Int} (h : P26 fu a0 a1 = some r) {args : List PV} (ha : [PV.d (.sl (E.L_Child a0.l) (E.X_Child a0.x)), PV.d (.sl (E.L_Child a1.l) (E.X_Child a1.x))] = args) (st : St) :
    Sat (Ω.cf 26 args st) (fun q => q = (PV.d (.sl (E.L_i_i64 r.l) (E.X_i_i64 r.x)), st)) := by
  subst ha
  rcases a0 with ⟨a0_l, a0_x⟩
  rcases a1 with ⟨a1_l, a1_x⟩
  rw [cf_body hΩ (f := 26) (fn := Try.f26) (x := c26) rfl rfl c26_ok rfl]
  unfold P26 at h
  try dsimp only at h
  conv => arg 1; cbv
  refine sat_nil hΩ (ro_i_i64 hE) fun l1 hl2 => ?_
  conv => arg 1; cbv
  refine sat_empty hΩ (mo_str_i_i64 hE) fun m3 hm4 => ?_
  conv => arg 1; cbv
  refine sat_len hΩ (ro_Child hE) a0_l (by first | rfl | (subst_vars; rfl)) fun n5 hn6 => ?_
  conv => arg 1; cbv
  obtain ⟨q, hl14, hz⟩ := Option.bind_eq_some_iff.1 h
  clear h
  have h := hz
  clear hz
  refine sat_loop hΩ (fun (a : (List (ByteArray × Int)) × Int) => (match a with | (m7, i8) => ([(0, PV.d (.sl (E.L_Child a0_l) (E.X_Child a0_x))), (1, PV.d (.sl (E.L_Child a1_l) (E.X_Child a1_x))), (4, PV.row 0 0 0), (5, PV.map 0 1), (6, PV.d (.int .i64 i8))], ([X.Obj.row 3 1 (E.L_i_i64 l1) false none, X.Obj.map none true (E.M_str_i_i64 m7)] : List X.Obj) :: st))) (fun (q : ((List (ByteArray × Int)) × Int)) => (match q with | (o15, o16) => (.exit 0, [(0, PV.d (.sl (E.L_Child a0_l) (E.X_Child a0_x))), (1, PV.d (.sl (E.L_Child a1_l) (E.X_Child a1_x))), (4, PV.row 0 0 0), (5, PV.map 0 1), (6, PV.d (.int .i64 o16))], ([X.Obj.row 3 1 (E.L_i_i64 l1) false none, X.Obj.map none true (E.M_str_i_i64 o15)] : List X.Obj) :: st))) (([] : List (ByteArray × Int)), w64 ((ln a0_l) - 1)) hl14 (by first | rfl | (subst_vars; rfl) | (subst_vars; simp only [ln_set])) ?_ ?_
  · clear h hl14
    rintro ⟨m7, i8⟩ q h
    unfold P26_s0 at h
    dsimp only at h
    conv => arg 1; cbv
    refine sat_in hΩ ?_
    conv => arg 1; cbv
    replace h := bif_cases h
    rcases h with ⟨hb9, h⟩ | ⟨hb9, h⟩
    · refine sat_brt (by first | exact hb9 | (subst_vars; first | exact hb9 | rfl)) ?_
      conv => arg 1; cbv
      refine sat_true (fits_l hΩ (ro_Child hE) a0_l (by first | rfl | (subst_vars; rfl))) ?_
      conv => arg 1; cbv
      obtain ⟨⟨x10_Key, x10_Kind, x10_Name, ⟨x10_Value_Kind, x10_Value_N, x10_Value_S, ⟨x10_Value_L_l, x10_Value_L_x⟩, ⟨x10_Value_F_l, x10_Value_F_x⟩, x10_Value_Elem, x10_Value_Key, x10_Value_HasKey⟩⟩, hx11, hz⟩ := Option.bind_eq_some_iff.1 h
      clear h
      have h := hz
      clear hz
      try dsimp only at h
      refine sat_bind (nth_ok hΩ (ro_Child hE) hx11 (by first | rfl | (subst_vars; rfl)) (by first | rfl | (subst_vars; rfl))) ?_
      conv => arg 1; cbv
      refine sat_put hΩ (mo_str_i_i64 hE) m7 x10_Key i8 (by first | rfl | (subst_vars; rfl)) (by first | rfl | (subst_vars; rfl)) (by first | rfl | (subst_vars; rfl)) fun m12 hm13 => ?_
      conv => arg 1; cbv
      obtain rfl := Option.some.inj h
      subst_vars
      first | exact sat_pure ⟨rfl, rfl, rfl⟩ | (refine sat_pure ⟨rfl, ?_, ?_⟩ <;> first | rfl | (dsimp only; simp only [ln_set]; rfl))
    · refine sat_brf (by first | exact hb9 | (subst_vars; first | exact hb9 | rfl)) ?_
      conv => arg 1; cbv
      obtain rfl := Option.some.inj h
      subst_vars
      first | exact sat_pure (.inl ⟨⟨_, rfl⟩, rfl⟩) | (refine sat_pure (.inl ⟨⟨_, rfl⟩, ?_⟩); dsimp only; simp only [ln_set]; rfl)
  · clear hl14
    rcases q with ⟨o15, o16⟩
    dsimp only at h
    conv => arg 1; cbv
    refine sat_len hΩ (ro_Child hE) a1_l (by first | rfl | (subst_vars; rfl)) fun n17 hn18 => ?_
    conv => arg 1; cbv
    obtain ⟨q, hl49, hz⟩ := Option.bind_eq_some_iff.1 h
    clear h
    have h := hz
    clear hz
    refine sat_loop hΩ (fun (a : (List Int) × (List (ByteArray × Int)) × Int) => (match a with | (l19, m20, i21) => ([(0, PV.d (.sl (E.L_Child a0_l) (E.X_Child a0_x))), (1, PV.d (.sl (E.L_Child a1_l) (E.X_Child a1_x))), (4, PV.row 0 0 (ln l19)), (5, PV.map 0 1), (6, PV.d (.int .i64 o16)), (26, PV.d (.sl (E.L_Child a1_l) (E.X_Child a1_x))), (27, PV.d (.int .i64 n17)), (28, PV.d (.int .i64 i21))], ([X.Obj.row 3 1 (E.L_i_i64 l19) false none, X.Obj.map none true (E.M_str_i_i64 m20)] : List X.Obj) :: st))) (fun (q : ((List Int) × (List (ByteArray × Int)) × Int)) => (match q with | (o50, o51, o52) => (.exit 2, [(0, PV.d (.sl (E.L_Child a0_l) (E.X_Child a0_x))), (1, PV.d (.sl (E.L_Child a1_l) (E.X_Child a1_x))), (4, PV.row 0 0 (ln o50)), (5, PV.map 0 1), (6, PV.d (.int .i64 o16)), (26, PV.d (.sl (E.L_Child a1_l) (E.X_Child a1_x))), (27, PV.d (.int .i64 n17)), (28, PV.d (.int .i64 o52))], ([X.Obj.row 3 1 (E.L_i_i64 o50) false none, X.Obj.map none true (E.M_str_i_i64 o51)] : List X.Obj) :: st))) (([] : List Int), o15, 0) hl49 (by first | rfl | (subst_vars; rfl) | (subst_vars; simp only [ln_set])) ?_ ?_
    · clear h hl49
      rintro ⟨l19, m20, i21⟩ q h
      unfold P26_s1 at h
      dsimp only at h
      obtain ⟨ln_l19, hln_l19⟩ : ∃ n, ln l19 = n := ⟨_, rfl⟩
      simp only [hln_l19]
      conv => arg 1; cbv
      refine sat_in hΩ ?_
      conv => arg 1; cbv
      replace h := bif_cases h
      rcases h with ⟨hb22, h⟩ | ⟨hb22, h⟩
      · refine sat_brt (by first | exact hb22 | (subst_vars; first | exact hb22 | rfl)) ?_
        conv => arg 1; cbv
        refine sat_true (fits_l hΩ (ro_Child hE) a1_l (by first | rfl | (subst_vars; rfl))) ?_
        conv => arg 1; cbv
        obtain ⟨⟨x23_Key, x23_Kind, x23_Name, ⟨x23_Value_Kind, x23_Value_N, x23_Value_S, ⟨x23_Value_L_l, x23_Value_L_x⟩, ⟨x23_Value_F_l, x23_Value_F_x⟩, x23_Value_Elem, x23_Value_Key, x23_Value_HasKey⟩⟩, hx24, hz⟩ := Option.bind_eq_some_iff.1 h
        clear h
        have h := hz
        clear hz
        try dsimp only at h
        refine sat_bind (nth_ok hΩ (ro_Child hE) hx24 (by first | rfl | (subst_vars; rfl)) (by first | rfl | (subst_vars; rfl))) ?_
        conv => arg 1; cbv
        rcases hq26 : mget m20 x23_Key with _ | x25
        · rw [hq26] at h
          dsimp only at h
          refine sat_find_none hΩ (mo_str_i_i64 hE) hq26 (by first | rfl | (subst_vars; rfl)) (by first | rfl | (subst_vars; rfl)) ?_
          conv => arg 1; cbv
          refine sat_in hΩ ?_
          conv => arg 1; cbv
          refine sat_true (ieq_ok hΩ _) ?_
          conv => arg 1; cbv
          refine sat_true (fits_l hΩ (ro_i_i64 hE) [(-1)] (by first | rfl | (subst_vars; rfl))) ?_
          conv => arg 1; cbv
          refine sat_true (len_ok hΩ (ro_i_i64 hE) l19 (by first | rfl | (subst_vars; rfl) | (subst_vars; simp only [ln_set])) (by first | rfl | (subst_vars; rfl) | (subst_vars; simp only [ln_set]))) ?_
          conv => arg 1; cbv
          refine sat_brf (len_zero hΩ (ro_i_i64 hE) (l := [(-1)]) (b := false) (by rfl) (by first | rfl | (subst_vars; rfl))) ?_
          conv => arg 1; cbv
          refine sat_cat hΩ (ro_i_i64 hE) l19 [(-1)] (by first | rfl | (subst_vars; rfl)) (by first | rfl | (subst_vars; rfl)) fun l27 hl28 n29 hn30 => ?_
          conv => arg 1; cbv
          replace h := bif_some h
          obtain ⟨hb31, h⟩ := h
          refine sat_true (by first | exact hb31 | (subst_vars; first | exact hb31 | rfl)) ?_
          conv => arg 1; cbv
          obtain rfl := Option.some.inj h
          subst_vars
          first | exact sat_pure ⟨rfl, rfl, rfl⟩ | (refine sat_pure ⟨rfl, ?_, ?_⟩ <;> first | rfl | (dsimp only; simp only [ln_set]; rfl))
        · rw [hq26] at h
          dsimp only at h
          refine sat_find_some hΩ (mo_str_i_i64 hE) hq26 (by first | rfl | (subst_vars; rfl)) (by first | rfl | (subst_vars; rfl)) ?_
          conv => arg 1; cbv
          refine sat_true (fits_l hΩ (ro_Child hE) a0_l (by first | rfl | (subst_vars; rfl))) ?_
          conv => arg 1; cbv
          obtain ⟨⟨x32_Key, x32_Kind, x32_Name, ⟨x32_Value_Kind, x32_Value_N, x32_Value_S, ⟨x32_Value_L_l, x32_Value_L_x⟩, ⟨x32_Value_F_l, x32_Value_F_x⟩, x32_Value_Elem, x32_Value_Key, x32_Value_HasKey⟩⟩, hx33, hz⟩ := Option.bind_eq_some_iff.1 h
          clear h
          have h := hz
          clear hz
          try dsimp only at h
          refine sat_bind (nth_ok hΩ (ro_Child hE) hx33 (by first | rfl | (subst_vars; rfl)) (by first | rfl | (subst_vars; rfl))) ?_
          conv => arg 1; cbv
          obtain ⟨r34, hx35, hz⟩ := Option.bind_eq_some_iff.1 h
          clear h
          have h := hz
          clear hz
          refine sat_call (ok17 hΩ hE hx35 (by subst_vars; rfl) _) ?_
          conv => arg 1; cbv
          refine sat_true (same_ok hΩ _) ?_
          conv => arg 1; cbv
          refine sat_in hΩ ?_
          conv => arg 1; cbv
          replace h := bif_cases h
          rcases h with ⟨hb36, h⟩ | ⟨hb36, h⟩
          · refine sat_brt (by first | exact hb36 | (subst_vars; first | exact hb36 | rfl)) ?_
            conv => arg 1; cbv
            refine sat_true (ieq_ok hΩ _) ?_
            conv => arg 1; cbv
            refine sat_true (fits_l hΩ (ro_i_i64 hE) [(-1)] (by first | rfl | (subst_vars; rfl))) ?_
            conv => arg 1; cbv
            refine sat_true (len_ok hΩ (ro_i_i64 hE) l19 (by first | rfl | (subst_vars; rfl) | (subst_vars; simp only [ln_set])) (by first | rfl | (subst_vars; rfl) | (subst_vars; simp only [ln_set]))) ?_
            conv => arg 1; cbv
            refine sat_brf (len_zero hΩ (ro_i_i64 hE) (l := [(-1)]) (b := false) (by rfl) (by first | rfl | (subst_vars; rfl))) ?_
            conv => arg 1; cbv
            refine sat_cat hΩ (ro_i_i64 hE) l19 [(-1)] (by first | rfl | (subst_vars; rfl)) (by first | rfl | (subst_vars; rfl)) fun l37 hl38 n39 hn40 => ?_
            conv => arg 1; cbv
            replace h := bif_some h
            obtain ⟨hb41, h⟩ := h
            refine sat_true (by first | exact hb41 | (subst_vars; first | exact hb41 | rfl)) ?_
            conv => arg 1; cbv
            obtain rfl := Option.some.inj h
            subst_vars
            first | exact sat_pure ⟨rfl, rfl, rfl⟩ | (refine sat_pure ⟨rfl, ?_, ?_⟩ <;> first | rfl | (dsimp only; simp only [ln_set]; rfl))
          · refine sat_brf (by first | exact hb36 | (subst_vars; first | exact hb36 | rfl)) ?_
            conv => arg 1; cbv
            refine sat_del hΩ (mo_str_i_i64 hE) m20 x23_Key (by first | rfl | (subst_vars; rfl)) (by first | rfl | (subst_vars; rfl)) fun m42 hm43 => ?_
            conv => arg 1; cbv
            refine sat_true (ieq_ok hΩ _) ?_
            conv => arg 1; cbv
            refine sat_true (fits_l hΩ (ro_i_i64 hE) [x25] (by first | rfl | (subst_vars; rfl))) ?_
            conv => arg 1; cbv
            refine sat_true (len_ok hΩ (ro_i_i64 hE) l19 (by first | rfl | (subst_vars; rfl) | (subst_vars; simp only [ln_set])) (by first | rfl | (subst_vars; rfl) | (subst_vars; simp only [ln_set]))) ?_
            conv => arg 1; cbv
            refine sat_brf (len_zero hΩ (ro_i_i64 hE) (l := [x25]) (b := false) (by rfl) (by first | rfl | (subst_vars; rfl))) ?_
            conv => arg 1; cbv
            refine sat_cat hΩ (ro_i_i64 hE) l19 [x25] (by first | rfl | (subst_vars; rfl)) (by first | rfl | (subst_vars; rfl)) fun l44 hl45 n46 hn47 => ?_
            conv => arg 1; cbv
            replace h := bif_some h
            obtain ⟨hb48, h⟩ := h
            refine sat_true (by first | exact hb48 | (subst_vars; first | exact hb48 | rfl)) ?_
            conv => arg 1; cbv
            obtain rfl := Option.some.inj h
            subst_vars
            first | exact sat_pure ⟨rfl, rfl, rfl⟩ | (refine sat_pure ⟨rfl, ?_, ?_⟩ <;> first | rfl | (dsimp only; simp only [ln_set]; rfl))
      · refine sat_brf (by first | exact hb22 | (subst_vars; first | exact hb22 | rfl)) ?_
        conv => arg 1; cbv
        obtain rfl := Option.some.inj h
        subst_vars
        first | exact sat_pure (.inl ⟨⟨_, rfl⟩, rfl⟩) | (refine sat_pure (.inl ⟨⟨_, rfl⟩, ?_⟩); dsimp only; simp only [ln_set]; rfl)
    · clear hl49
      rcases q with ⟨o50, o51, o52⟩
      dsimp only at h
      obtain ⟨ln_o50, hln_o50⟩ : ∃ n, ln o50 = n := ⟨_, rfl⟩
      simp only [hln_o50]
      conv => arg 1; cbv
      refine sat_true (len_ok hΩ (ro_i_i64 hE) o50 (by first | rfl | (subst_vars; rfl)) (by first | rfl | (subst_vars; rfl))) ?_
      conv => arg 1; cbv
      obtain rfl := Option.some.inj h
      subst_vars
      exact sat_pure rfl
set_option maxHeartbeats 4000000 in
theorem ok45 {Ω : Om} {E : Enc} (hΩ : real (call S) = Ω) (hE : theEnc = E) {fu : Nat} {a0 : Sl Int} {a1 : Sl Int} {r : Bool} (h : P45 fu a0 a1 = some r) {args : List PV} (ha : [PV.d (.sl (E.L_i_i64 a0.l) (E.X_i_i64 a0.x)), PV.d (.sl (E.L_i_i64 a1.l) (E.X_i_i64 a1.x))] = args) (st : St) :
    Sat (Ω.cf 45 args st) (fun q => q = (PV.d (.bool r), st)) := by
  subst ha
  rcases a0 with ⟨a0_l, a0_x⟩
  rcases a1 with ⟨a1_l, a1_x⟩
  rw [cf_body hΩ (f := 45) (fn := Try.f45) (x := c45) rfl rfl c45_ok rfl]
  unfold P45 at h
  try dsimp only at h
  conv => arg 1; cbv
  refine sat_len hΩ (ro_i_i64 hE) a0_l (by first | rfl | (subst_vars; rfl)) fun n1 hn2 => ?_
  conv => arg 1; cbv
  refine sat_len hΩ (ro_i_i64 hE) a1_l (by first | rfl | (subst_vars; rfl)) fun n3 hn4 => ?_
  conv => arg 1; cbv
  refine sat_in hΩ ?_
  conv => arg 1; cbv
  replace h := bif_cases h
  rcases h with ⟨hb5, h⟩ | ⟨hb5, h⟩
  · refine sat_brt (by first | exact hb5 | (subst_vars; first | exact hb5 | rfl)) ?_
    conv => arg 1; cbv
    obtain rfl := Option.some.inj h
    subst_vars
    exact sat_pure rfl
  · refine sat_brf (by first | exact hb5 | (subst_vars; first | exact hb5 | rfl)) ?_
    conv => arg 1; cbv
    obtain ⟨q, hl15, hz⟩ := Option.bind_eq_some_iff.1 h
    clear h
    have h := hz
    clear hz
    refine sat_loop hΩ (fun (a : Int) => (match a with | i6 => ([(0, PV.d (.sl (E.L_i_i64 a0_l) (E.X_i_i64 a0_x))), (1, PV.d (.sl (E.L_i_i64 a1_l) (E.X_i_i64 a1_x))), (4, PV.d (.bool false)), (5, PV.d (.int .i64 i6))], ([] : List X.Obj) :: st))) (fun (q : Int ⊕ Int) => (match q with | .inl o16 => (.exit 0, [(0, PV.d (.sl (E.L_i_i64 a0_l) (E.X_i_i64 a0_x))), (1, PV.d (.sl (E.L_i_i64 a1_l) (E.X_i_i64 a1_x))), (4, PV.d (.bool false)), (5, PV.d (.int .i64 o16))], ([] : List X.Obj) :: st) | .inr o17 => (.ret, [(0, PV.d (.sl (E.L_i_i64 a0_l) (E.X_i_i64 a0_x))), (1, PV.d (.sl (E.L_i_i64 a1_l) (E.X_i_i64 a1_x))), (4, PV.d (.bool false)), (5, PV.d (.int .i64 o17))], ([] : List X.Obj) :: st))) 0 hl15 (by first | rfl | (subst_vars; rfl) | (subst_vars; simp only [ln_set])) ?_ ?_
    · clear h hl15
      rintro i6 q h
      unfold P45_s0 at h
      dsimp only at h
      conv => arg 1; cbv
      refine sat_len hΩ (ro_i_i64 hE) a0_l (by first | rfl | (subst_vars; rfl)) fun n7 hn8 => ?_
      conv => arg 1; cbv
      refine sat_in hΩ ?_
      conv => arg 1; cbv
      replace h := bif_cases h
      rcases h with ⟨hb9, h⟩ | ⟨hb9, h⟩
      · refine sat_brt (by first | exact hb9 | (subst_vars; first | exact hb9 | rfl)) ?_
        conv => arg 1; cbv
        refine sat_true (fits_l hΩ (ro_i_i64 hE) a0_l (by first | rfl | (subst_vars; rfl))) ?_
        conv => arg 1; cbv
        obtain ⟨x10, hx11, hz⟩ := Option.bind_eq_some_iff.1 h
        clear h
        have h := hz
        clear hz
        refine sat_bind (nth_ok hΩ (ro_i_i64 hE) hx11 (by first | rfl | (subst_vars; rfl)) (by first | rfl | (subst_vars; rfl))) ?_
        conv => arg 1; cbv
        refine sat_true (fits_l hΩ (ro_i_i64 hE) a1_l (by first | rfl | (subst_vars; rfl))) ?_
        conv => arg 1; cbv
        obtain ⟨x12, hx13, hz⟩ := Option.bind_eq_some_iff.1 h
        clear h
        have h := hz
        clear hz
        refine sat_bind (nth_ok hΩ (ro_i_i64 hE) hx13 (by first | rfl | (subst_vars; rfl)) (by first | rfl | (subst_vars; rfl))) ?_
        conv => arg 1; cbv
        refine sat_in hΩ ?_
        conv => arg 1; cbv
        replace h := bif_cases h
        rcases h with ⟨hb14, h⟩ | ⟨hb14, h⟩
        · refine sat_brt (by first | exact hb14 | (subst_vars; first | exact hb14 | rfl)) ?_
          conv => arg 1; cbv
          obtain rfl := Option.some.inj h
          subst_vars
          first | exact sat_pure (.inr ⟨rfl, rfl⟩) | (refine sat_pure (.inr ⟨rfl, ?_⟩); dsimp only; simp only [ln_set]; rfl)
        · refine sat_brf (by first | exact hb14 | (subst_vars; first | exact hb14 | rfl)) ?_
          conv => arg 1; cbv
          obtain rfl := Option.some.inj h
          subst_vars
          first | exact sat_pure ⟨rfl, rfl, rfl⟩ | (refine sat_pure ⟨rfl, ?_, ?_⟩ <;> first | rfl | (dsimp only; simp only [ln_set]; rfl))
      · refine sat_brf (by first | exact hb9 | (subst_vars; first | exact hb9 | rfl)) ?_
        conv => arg 1; cbv
        obtain rfl := Option.some.inj h
        subst_vars
        first | exact sat_pure (.inl ⟨⟨_, rfl⟩, rfl⟩) | (refine sat_pure (.inl ⟨⟨_, rfl⟩, ?_⟩); dsimp only; simp only [ln_set]; rfl)
    · clear hl15
      rcases q with o16 | o17
      · dsimp only at h
        conv => arg 1; cbv
        obtain rfl := Option.some.inj h
        subst_vars
        exact sat_pure rfl
      · dsimp only at h
        conv => arg 1; cbv
        obtain rfl := Option.some.inj h
        subst_vars
        exact sat_pure rfl
set_option maxHeartbeats 4000000 in
theorem ok51 {Ω : Om} {E : Enc} (hΩ : real (call S) = Ω) (hE : theEnc = E) {fu : Nat} {a0 : ByteArray} {a1 : Int} {r : Child} (h : P51 fu a0 a1 = some r) {args : List PV} (ha : [PV.d (.str a0), PV.d (.int .u8 a1)] = args) (st : St) :
    Sat (Ω.cf 51 args st) (fun q => q = (pv_Child E r, st)) := by
  subst ha
  rw [cf_body hΩ (f := 51) (fn := Try.f51) (x := c51) rfl rfl c51_ok rfl]
  unfold P51 at h
  try dsimp only at h
  conv => arg 1; cbv
  obtain rfl := Option.some.inj h
  subst_vars
  exact sat_pure rfl
set_option maxHeartbeats 4000000 in
theorem ok24 {Ω : Om} {E : Enc} (hΩ : real (call S) = Ω) (hE : theEnc = E) {fu : Nat} {r : Bool} (h : P24 fu = some r) {args : List PV} (ha : [] = args) (st : St) :
    Sat (Ω.cf 24 args st) (fun q => q = (PV.d (.bool r), st)) := by
  subst ha
  rw [cf_body hΩ (f := 24) (fn := Try.f24) (x := c24) rfl rfl c24_ok rfl]
  unfold P24 at h
  try dsimp only at h
  conv => arg 1; cbv
  obtain ⟨⟨r1_Key, r1_Kind, r1_Name, ⟨r1_Value_Kind, r1_Value_N, r1_Value_S, ⟨r1_Value_L_l, r1_Value_L_x⟩, ⟨r1_Value_F_l, r1_Value_F_x⟩, r1_Value_Elem, r1_Value_Key, r1_Value_HasKey⟩⟩, hx2, hz⟩ := Option.bind_eq_some_iff.1 h
  clear h
  have h := hz
  clear hz
  try dsimp only at h
  refine sat_call (ok51 hΩ hE hx2 (by subst_vars; rfl) _) ?_
  conv => arg 1; cbv
  obtain ⟨⟨r3_Key, r3_Kind, r3_Name, ⟨r3_Value_Kind, r3_Value_N, r3_Value_S, ⟨r3_Value_L_l, r3_Value_L_x⟩, ⟨r3_Value_F_l, r3_Value_F_x⟩, r3_Value_Elem, r3_Value_Key, r3_Value_HasKey⟩⟩, hx4, hz⟩ := Option.bind_eq_some_iff.1 h
  clear h
  have h := hz
  clear hz
  try dsimp only at h
  refine sat_call (ok51 hΩ hE hx4 (by subst_vars; rfl) _) ?_
  conv => arg 1; cbv
  obtain ⟨⟨r5_Key, r5_Kind, r5_Name, ⟨r5_Value_Kind, r5_Value_N, r5_Value_S, ⟨r5_Value_L_l, r5_Value_L_x⟩, ⟨r5_Value_F_l, r5_Value_F_x⟩, r5_Value_Elem, r5_Value_Key, r5_Value_HasKey⟩⟩, hx6, hz⟩ := Option.bind_eq_some_iff.1 h
  clear h
  have h := hz
  clear hz
  try dsimp only at h
  refine sat_call (ok51 hΩ hE hx6 (by subst_vars; rfl) _) ?_
  conv => arg 1; cbv
  obtain ⟨⟨r7_Key, r7_Kind, r7_Name, ⟨r7_Value_Kind, r7_Value_N, r7_Value_S, ⟨r7_Value_L_l, r7_Value_L_x⟩, ⟨r7_Value_F_l, r7_Value_F_x⟩, r7_Value_Elem, r7_Value_Key, r7_Value_HasKey⟩⟩, hx8, hz⟩ := Option.bind_eq_some_iff.1 h
  clear h
  have h := hz
  clear hz
  try dsimp only at h
  refine sat_call (ok51 hΩ hE hx8 (by subst_vars; rfl) _) ?_
  conv => arg 1; cbv
  obtain ⟨⟨r9_Key, r9_Kind, r9_Name, ⟨r9_Value_Kind, r9_Value_N, r9_Value_S, ⟨r9_Value_L_l, r9_Value_L_x⟩, ⟨r9_Value_F_l, r9_Value_F_x⟩, r9_Value_Elem, r9_Value_Key, r9_Value_HasKey⟩⟩, hx10, hz⟩ := Option.bind_eq_some_iff.1 h
  clear h
  have h := hz
  clear hz
  try dsimp only at h
  refine sat_call (ok51 hΩ hE hx10 (by subst_vars; rfl) _) ?_
  conv => arg 1; cbv
  obtain ⟨⟨r11_l, r11_x⟩, hx12, hz⟩ := Option.bind_eq_some_iff.1 h
  clear h
  have h := hz
  clear hz
  try dsimp only at h
  refine sat_call (ok26 hΩ hE hx12 (by subst_vars; rfl) _) ?_
  conv => arg 1; cbv
  refine sat_true (same_ok hΩ _) ?_
  conv => arg 1; cbv
  refine sat_true (same_ok hΩ _) ?_
  conv => arg 1; cbv
  obtain ⟨r13, hx14, hz⟩ := Option.bind_eq_some_iff.1 h
  clear h
  have h := hz
  clear hz
  refine sat_call (ok45 hΩ hE hx14 (by subst_vars; rfl) _) ?_
  conv => arg 1; cbv
  refine sat_true (same_ok hΩ _) ?_
  conv => arg 1; cbv
  replace h := bif_cases h
  rcases h with ⟨hb15, h⟩ | ⟨hb15, h⟩
  · refine sat_brt (by first | exact hb15 | (subst_vars; first | exact hb15 | rfl)) ?_
    conv => arg 1; cbv
    refine sat_true (fits_x hΩ (ro_Child hE) [(Child.mk r1_Key r1_Kind r1_Name (Value.mk r1_Value_Kind r1_Value_N r1_Value_S (Sl.mk r1_Value_L_l r1_Value_L_x) (Sl.mk r1_Value_F_l r1_Value_F_x) r1_Value_Elem r1_Value_Key r1_Value_HasKey)), (Child.mk r3_Key r3_Kind r3_Name (Value.mk r3_Value_Kind r3_Value_N r3_Value_S (Sl.mk r3_Value_L_l r3_Value_L_x) (Sl.mk r3_Value_F_l r3_Value_F_x) r3_Value_Elem r3_Value_Key r3_Value_HasKey))] (some []) (by first | rfl | (subst_vars; rfl)) (by first | rfl | (subst_vars; rfl))) ?_
    conv => arg 1; cbv
    refine sat_len hΩ (ro_Child hE) [(Child.mk r1_Key r1_Kind r1_Name (Value.mk r1_Value_Kind r1_Value_N r1_Value_S (Sl.mk r1_Value_L_l r1_Value_L_x) (Sl.mk r1_Value_F_l r1_Value_F_x) r1_Value_Elem r1_Value_Key r1_Value_HasKey)), (Child.mk r3_Key r3_Kind r3_Name (Value.mk r3_Value_Kind r3_Value_N r3_Value_S (Sl.mk r3_Value_L_l r3_Value_L_x) (Sl.mk r3_Value_F_l r3_Value_F_x) r3_Value_Elem r3_Value_Key r3_Value_HasKey))] (by first | rfl | (subst_vars; rfl)) fun n16 hn17 => ?_
    conv => arg 1; cbv
    refine sat_cat hΩ (ro_Child hE) [(Child.mk r1_Key r1_Kind r1_Name (Value.mk r1_Value_Kind r1_Value_N r1_Value_S (Sl.mk r1_Value_L_l r1_Value_L_x) (Sl.mk r1_Value_F_l r1_Value_F_x) r1_Value_Elem r1_Value_Key r1_Value_HasKey)), (Child.mk r3_Key r3_Kind r3_Name (Value.mk r3_Value_Kind r3_Value_N r3_Value_S (Sl.mk r3_Value_L_l r3_Value_L_x) (Sl.mk r3_Value_F_l r3_Value_F_x) r3_Value_Elem r3_Value_Key r3_Value_HasKey))] [] (by first | rfl | (subst_vars; rfl)) (by first | rfl | (subst_vars; rfl)) fun l18 hl19 n20 hn21 => ?_
    conv => arg 1; cbv
    replace h := bif_some h
    obtain ⟨hb22, h⟩ := h
    refine sat_true (by first | exact hb22 | (subst_vars; first | exact hb22 | rfl)) ?_
    conv => arg 1; cbv
    replace h := bif_some h
    obtain ⟨hb23, h⟩ := h
    refine sat_true (by first | exact hb23 | (subst_vars; first | exact hb23 | rfl)) ?_
    conv => arg 1; cbv
    replace h := bif_some h
    obtain ⟨hb24, h⟩ := h
    refine sat_true (by first | exact hb24 | (subst_vars; first | exact hb24 | rfl)) ?_
    conv => arg 1; cbv
    refine sat_cut hΩ (ro_Child hE) ([(Child.mk r1_Key r1_Kind r1_Name (Value.mk r1_Value_Kind r1_Value_N r1_Value_S (Sl.mk r1_Value_L_l r1_Value_L_x) (Sl.mk r1_Value_F_l r1_Value_F_x) r1_Value_Elem r1_Value_Key r1_Value_HasKey)), (Child.mk r3_Key r3_Kind r3_Name (Value.mk r3_Value_Kind r3_Value_N r3_Value_S (Sl.mk r3_Value_L_l r3_Value_L_x) (Sl.mk r3_Value_F_l r3_Value_F_x) r3_Value_Elem r3_Value_Key r3_Value_HasKey))] ++ []) 0 1 (by first | rfl | (subst_vars; rfl)) (by first | rfl | (subst_vars; rfl)) (by first | rfl | (subst_vars; rfl)) fun l25 hl26 => ?_
    conv => arg 1; cbv
    refine sat_cut hΩ (ro_Child hE) ([(Child.mk r1_Key r1_Kind r1_Name (Value.mk r1_Value_Kind r1_Value_N r1_Value_S (Sl.mk r1_Value_L_l r1_Value_L_x) (Sl.mk r1_Value_F_l r1_Value_F_x) r1_Value_Elem r1_Value_Key r1_Value_HasKey)), (Child.mk r3_Key r3_Kind r3_Name (Value.mk r3_Value_Kind r3_Value_N r3_Value_S (Sl.mk r3_Value_L_l r3_Value_L_x) (Sl.mk r3_Value_F_l r3_Value_F_x) r3_Value_Elem r3_Value_Key r3_Value_HasKey))] ++ []) 1 (ln ([(Child.mk r1_Key r1_Kind r1_Name (Value.mk r1_Value_Kind r1_Value_N r1_Value_S (Sl.mk r1_Value_L_l r1_Value_L_x) (Sl.mk r1_Value_F_l r1_Value_F_x) r1_Value_Elem r1_Value_Key r1_Value_HasKey)), (Child.mk r3_Key r3_Kind r3_Name (Value.mk r3_Value_Kind r3_Value_N r3_Value_S (Sl.mk r3_Value_L_l r3_Value_L_x) (Sl.mk r3_Value_F_l r3_Value_F_x) r3_Value_Elem r3_Value_Key r3_Value_HasKey))] ++ [])) (by first | rfl | (subst_vars; rfl)) (by first | rfl | (subst_vars; rfl)) (by first | rfl | (subst_vars; rfl)) fun l27 hl28 => ?_
    conv => arg 1; cbv
    refine sat_true (fits_l hΩ (ro_Child hE) [(Child.mk r1_Key r1_Kind r1_Name (Value.mk r1_Value_Kind r1_Value_N r1_Value_S (Sl.mk r1_Value_L_l r1_Value_L_x) (Sl.mk r1_Value_F_l r1_Value_F_x) r1_Value_Elem r1_Value_Key r1_Value_HasKey)), (Child.mk r3_Key r3_Kind r3_Name (Value.mk r3_Value_Kind r3_Value_N r3_Value_S (Sl.mk r3_Value_L_l r3_Value_L_x) (Sl.mk r3_Value_F_l r3_Value_F_x) r3_Value_Elem r3_Value_Key r3_Value_HasKey))] (by first | rfl | (subst_vars; rfl))) ?_
    conv => arg 1; cbv
    obtain ⟨⟨x29_Key, x29_Kind, x29_Name, ⟨x29_Value_Kind, x29_Value_N, x29_Value_S, ⟨x29_Value_L_l, x29_Value_L_x⟩, ⟨x29_Value_F_l, x29_Value_F_x⟩, x29_Value_Elem, x29_Value_Key, x29_Value_HasKey⟩⟩, hx30, hz⟩ := Option.bind_eq_some_iff.1 h
    clear h
    have h := hz
    clear hz
    try dsimp only at h
    refine sat_bind (nth_ok hΩ (ro_Child hE) hx30 (by first | rfl | (subst_vars; rfl)) (by first | rfl | (subst_vars; rfl))) ?_
    conv => arg 1; cbv
    refine sat_tick hΩ ?_
    conv => arg 1; cbv
    refine sat_true (fits_l hΩ (ro_Child hE) [(Child.mk r1_Key r1_Kind r1_Name (Value.mk r1_Value_Kind r1_Value_N r1_Value_S (Sl.mk r1_Value_L_l r1_Value_L_x) (Sl.mk r1_Value_F_l r1_Value_F_x) r1_Value_Elem r1_Value_Key r1_Value_HasKey)), (Child.mk r3_Key r3_Kind r3_Name (Value.mk r3_Value_Kind r3_Value_N r3_Value_S (Sl.mk r3_Value_L_l r3_Value_L_x) (Sl.mk r3_Value_F_l r3_Value_F_x) r3_Value_Elem r3_Value_Key r3_Value_HasKey))] (by first | rfl | (subst_vars; rfl))) ?_
    conv => arg 1; cbv
    obtain ⟨⟨x31_Key, x31_Kind, x31_Name, ⟨x31_Value_Kind, x31_Value_N, x31_Value_S, ⟨x31_Value_L_l, x31_Value_L_x⟩, ⟨x31_Value_F_l, x31_Value_F_x⟩, x31_Value_Elem, x31_Value_Key, x31_Value_HasKey⟩⟩, hx32, hz⟩ := Option.bind_eq_some_iff.1 h
    clear h
    have h := hz
    clear hz
    try dsimp only at h
    refine sat_bind (nth_ok hΩ (ro_Child hE) hx32 (by first | rfl | (subst_vars; rfl)) (by first | rfl | (subst_vars; rfl))) ?_
    conv => arg 1; cbv
    refine sat_true (same_ok hΩ _) ?_
    conv => arg 1; cbv
    obtain ⟨⟨r33_l, r33_x⟩, hx34, hz⟩ := Option.bind_eq_some_iff.1 h
    clear h
    have h := hz
    clear hz
    try dsimp only at h
    refine sat_call (ok26 hΩ hE hx34 (by subst_vars; rfl) _) ?_
    conv => arg 1; cbv
    refine sat_true (same_ok hΩ _) ?_
    conv => arg 1; cbv
    refine sat_true (same_ok hΩ _) ?_
    conv => arg 1; cbv
    obtain ⟨r35, hx36, hz⟩ := Option.bind_eq_some_iff.1 h
    clear h
    have h := hz
    clear hz
    refine sat_call (ok45 hΩ hE hx36 (by subst_vars; rfl) _) ?_
    conv => arg 1; cbv
    refine sat_true (same_ok hΩ _) ?_
    conv => arg 1; cbv
    replace h := bif_cases h
    rcases h with ⟨hb37, h⟩ | ⟨hb37, h⟩
    · refine sat_brt (by first | exact hb37 | (subst_vars; first | exact hb37 | rfl)) ?_
      conv => arg 1; cbv
      obtain ⟨⟨r38_l, r38_x⟩, hx39, hz⟩ := Option.bind_eq_some_iff.1 h
      clear h
      have h := hz
      clear hz
      try dsimp only at h
      refine sat_call (ok26 hΩ hE hx39 (by subst_vars; rfl) _) ?_
      conv => arg 1; cbv
      refine sat_true (same_ok hΩ _) ?_
      conv => arg 1; cbv
      refine sat_len hΩ (ro_i_i64 hE) r38_l (by first | rfl | (subst_vars; rfl)) fun n40 hn41 => ?_
      conv => arg 1; cbv
      refine sat_tick hΩ ?_
      conv => arg 1; cbv
      obtain rfl := Option.some.inj h
      subst_vars
      exact sat_pure rfl
    · refine sat_brf (by first | exact hb37 | (subst_vars; first | exact hb37 | rfl)) ?_
      conv => arg 1; cbv
      refine sat_tick hΩ ?_
      conv => arg 1; cbv
      obtain rfl := Option.some.inj h
      subst_vars
      exact sat_pure rfl
  · refine sat_brf (by first | exact hb15 | (subst_vars; first | exact hb15 | rfl)) ?_
    conv => arg 1; cbv
    refine sat_tick hΩ ?_
    conv => arg 1; cbv
    refine sat_tick hΩ ?_
    conv => arg 1; cbv
    obtain rfl := Option.some.inj h
    subst_vars
    exact sat_pure rfl
set_option maxHeartbeats 4000000 in
theorem ok19 {Ω : Om} {E : Enc} (hΩ : real (call S) = Ω) (hE : theEnc = E) {fu : Nat} {a0 : Sl Int} {r : Bool} (h : P19 fu a0 = some r) {args : List PV} (ha : [PV.d (.sl (E.L_i_i64 a0.l) (E.X_i_i64 a0.x))] = args) (st : St) :
    Sat (Ω.cf 19 args st) (fun q => q = (PV.d (.bool r), st)) := by
  subst ha
  rcases a0 with ⟨a0_l, a0_x⟩
  rw [cf_body hΩ (f := 19) (fn := Try.f19) (x := c19) rfl rfl c19_ok rfl]
  unfold P19 at h
  try dsimp only at h
  conv => arg 1; cbv
  obtain ⟨q, hl10, hz⟩ := Option.bind_eq_some_iff.1 h
  clear h
  have h := hz
  clear hz
  refine sat_loop hΩ (fun (a : Bool × Int × Int) => (match a with | (i1, i2, i3) => ([(0, PV.d (.sl (E.L_i_i64 a0_l) (E.X_i_i64 a0_x))), (2, PV.d (.bool i1)), (3, PV.d (.int .i64 i2)), (4, PV.d (.int .i64 i3))], ([] : List X.Obj) :: st))) (fun (q : (Bool × Int × Int) ⊕ (Bool × Int × Int)) => (match q with | .inl (o11, o12, o13) => (.exit 0, [(0, PV.d (.sl (E.L_i_i64 a0_l) (E.X_i_i64 a0_x))), (2, PV.d (.bool o11)), (3, PV.d (.int .i64 o12)), (4, PV.d (.int .i64 o13))], ([] : List X.Obj) :: st) | .inr (o14, o15, o16) => (.ret, [(0, PV.d (.sl (E.L_i_i64 a0_l) (E.X_i_i64 a0_x))), (2, PV.d (.bool o14)), (3, PV.d (.int .i64 o15)), (4, PV.d (.int .i64 o16))], ([] : List X.Obj) :: st))) (false, 0, 0) hl10 (by first | rfl | (subst_vars; rfl) | (subst_vars; simp only [ln_set])) ?_ ?_
  · clear h hl10
    rintro ⟨i1, i2, i3⟩ q h
    unfold P19_s0 at h
    dsimp only at h
    conv => arg 1; cbv
    refine sat_len hΩ (ro_i_i64 hE) a0_l (by first | rfl | (subst_vars; rfl)) fun n4 hn5 => ?_
    conv => arg 1; cbv
    refine sat_in hΩ ?_
    conv => arg 1; cbv
    replace h := bif_cases h
    rcases h with ⟨hb6, h⟩ | ⟨hb6, h⟩
    · refine sat_brt (by first | exact hb6 | (subst_vars; first | exact hb6 | rfl)) ?_
      conv => arg 1; cbv
      refine sat_true (fits_l hΩ (ro_i_i64 hE) a0_l (by first | rfl | (subst_vars; rfl))) ?_
      conv => arg 1; cbv
      obtain ⟨x7, hx8, hz⟩ := Option.bind_eq_some_iff.1 h
      clear h
      have h := hz
      clear hz
      refine sat_bind (nth_ok hΩ (ro_i_i64 hE) hx8 (by first | rfl | (subst_vars; rfl)) (by first | rfl | (subst_vars; rfl))) ?_
      conv => arg 1; cbv
      refine sat_in hΩ ?_
      conv => arg 1; cbv
      replace h := bif_cases h
      rcases h with ⟨hb9, h⟩ | ⟨hb9, h⟩
      · refine sat_brt (by first | exact hb9 | (subst_vars; first | exact hb9 | rfl)) ?_
        conv => arg 1; cbv
        obtain rfl := Option.some.inj h
        subst_vars
        first | exact sat_pure (.inr ⟨rfl, rfl⟩) | (refine sat_pure (.inr ⟨rfl, ?_⟩); dsimp only; simp only [ln_set]; rfl)
      · refine sat_brf (by first | exact hb9 | (subst_vars; first | exact hb9 | rfl)) ?_
        conv => arg 1; cbv
        obtain rfl := Option.some.inj h
        subst_vars
        first | exact sat_pure ⟨rfl, rfl, rfl⟩ | (refine sat_pure ⟨rfl, ?_, ?_⟩ <;> first | rfl | (dsimp only; simp only [ln_set]; rfl))
    · refine sat_brf (by first | exact hb6 | (subst_vars; first | exact hb6 | rfl)) ?_
      conv => arg 1; cbv
      obtain rfl := Option.some.inj h
      subst_vars
      first | exact sat_pure (.inl ⟨⟨_, rfl⟩, rfl⟩) | (refine sat_pure (.inl ⟨⟨_, rfl⟩, ?_⟩); dsimp only; simp only [ln_set]; rfl)
  · clear hl10
    rcases q with ⟨o11, o12, o13⟩ | ⟨o14, o15, o16⟩
    · dsimp only at h
      conv => arg 1; cbv
      obtain rfl := Option.some.inj h
      subst_vars
      exact sat_pure rfl
    · dsimp only at h
      conv => arg 1; cbv
      obtain rfl := Option.some.inj h
      subst_vars
      exact sat_pure rfl
set_option maxHeartbeats 4000000 in
theorem okb28 {Ω : Om} {E : Enc} (hΩ : real (call S) = Ω) (hE : theEnc = E) {fu : Nat} {p28 : Value → Option (Int)} (hp28 : ∀ {a0 : Value} {r : Int}, p28 a0 = some r → ∀ {args : List PV}, [pv_Value E a0] = args → ∀ (st : St), Sat (Ω.cf 28 args st) (fun q => q = (PV.d (.int .i64 r), st))) {p53 : (Sl Value) → Option (Int)} (hp53 : ∀ {a0 : Sl Value} {r : Int}, p53 a0 = some r → ∀ {args : List PV}, [PV.d (.sl (E.L_Value a0.l) (E.X_Value a0.x))] = args → ∀ (st : St), Sat (Ω.cf 53 args st) (fun q => q = (PV.d (.int .i64 r), st))) {p54 : (Sl Field) → Option (Int)} (hp54 : ∀ {a0 : Sl Field} {r : Int}, p54 a0 = some r → ∀ {args : List PV}, [PV.d (.sl (E.L_Field a0.l) (E.X_Field a0.x))] = args → ∀ (st : St), Sat (Ω.cf 54 args st) (fun q => q = (PV.d (.int .i64 r), st))) {p66 : Field → Option (Int)} (hp66 : ∀ {a0 : Field} {r : Int}, p66 a0 = some r → ∀ {args : List PV}, [pv_Field E a0] = args → ∀ (st : St), Sat (Ω.cf 66 args st) (fun q => q = (PV.d (.int .i64 r), st))) {a0 : Value} {r : Int} (h : Pb28 fu p28 p53 p54 p66 a0 = some r) {args : List PV} (ha : [pv_Value E a0] = args) (st : St) :
    Sat (Ω.cf 28 args st) (fun q => q = (PV.d (.int .i64 r), st)) := by
  subst ha
  rcases a0 with ⟨a0_Kind, a0_N, a0_S, ⟨a0_L_l, a0_L_x⟩, ⟨a0_F_l, a0_F_x⟩, a0_Elem, a0_Key, a0_HasKey⟩
  rw [cf_body hΩ (f := 28) (fn := Try.f28) (x := c28) rfl rfl c28_ok rfl]
  unfold Pb28 at h
  try dsimp only at h
  conv => arg 1; cbv
  refine sat_in hΩ ?_
  conv => arg 1; cbv
  replace h := bif_cases h
  rcases h with ⟨hb1, h⟩ | ⟨hb1, h⟩
  · refine sat_brt (by first | exact hb1 | (subst_vars; first | exact hb1 | rfl)) ?_
    conv => arg 1; cbv
    obtain ⟨r2, hx3, hz⟩ := Option.bind_eq_some_iff.1 h
    clear h
    have h := hz
    clear hz
    refine sat_call (hp53 hx3 (by subst_vars; rfl) _) ?_
    conv => arg 1; cbv
    refine sat_in hΩ ?_
    conv => arg 1; cbv
    replace h := bif_cases h
    rcases h with ⟨hb4, h⟩ | ⟨hb4, h⟩
    · refine sat_brt (by first | exact hb4 | (subst_vars; first | exact hb4 | rfl)) ?_
      conv => arg 1; cbv
      obtain ⟨r5, hx6, hz⟩ := Option.bind_eq_some_iff.1 h
      clear h
      have h := hz
      clear hz
      refine sat_call (hp54 hx6 (by subst_vars; rfl) _) ?_
      conv => arg 1; cbv
      obtain rfl := Option.some.inj h
      subst_vars
      exact sat_pure rfl
    · refine sat_brf (by first | exact hb4 | (subst_vars; first | exact hb4 | rfl)) ?_
      conv => arg 1; cbv
      obtain rfl := Option.some.inj h
      subst_vars
      exact sat_pure rfl
  · refine sat_brf (by first | exact hb1 | (subst_vars; first | exact hb1 | rfl)) ?_
    conv => arg 1; cbv
    refine sat_in hΩ ?_
    conv => arg 1; cbv
    replace h := bif_cases h
    rcases h with ⟨hb7, h⟩ | ⟨hb7, h⟩
    · refine sat_brt (by first | exact hb7 | (subst_vars; first | exact hb7 | rfl)) ?_
      conv => arg 1; cbv
      obtain ⟨r8, hx9, hz⟩ := Option.bind_eq_some_iff.1 h
      clear h
      have h := hz
      clear hz
      refine sat_call (hp54 hx9 (by subst_vars; rfl) _) ?_
      conv => arg 1; cbv
      obtain rfl := Option.some.inj h
      subst_vars
      exact sat_pure rfl
    · refine sat_brf (by first | exact hb7 | (subst_vars; first | exact hb7 | rfl)) ?_
      conv => arg 1; cbv
      obtain rfl := Option.some.inj h
      subst_vars
      exact sat_pure rfl
set_option maxHeartbeats 4000000 in
theorem okb53 {Ω : Om} {E : Enc} (hΩ : real (call S) = Ω) (hE : theEnc = E) {fu : Nat} {p28 : Value → Option (Int)} (hp28 : ∀ {a0 : Value} {r : Int}, p28 a0 = some r → ∀ {args : List PV}, [pv_Value E a0] = args → ∀ (st : St), Sat (Ω.cf 28 args st) (fun q => q = (PV.d (.int .i64 r), st))) {p53 : (Sl Value) → Option (Int)} (hp53 : ∀ {a0 : Sl Value} {r : Int}, p53 a0 = some r → ∀ {args : List PV}, [PV.d (.sl (E.L_Value a0.l) (E.X_Value a0.x))] = args → ∀ (st : St), Sat (Ω.cf 53 args st) (fun q => q = (PV.d (.int .i64 r), st))) {p54 : (Sl Field) → Option (Int)} (hp54 : ∀ {a0 : Sl Field} {r : Int}, p54 a0 = some r → ∀ {args : List PV}, [PV.d (.sl (E.L_Field a0.l) (E.X_Field a0.x))] = args → ∀ (st : St), Sat (Ω.cf 54 args st) (fun q => q = (PV.d (.int .i64 r), st))) {p66 : Field → Option (Int)} (hp66 : ∀ {a0 : Field} {r : Int}, p66 a0 = some r → ∀ {args : List PV}, [pv_Field E a0] = args → ∀ (st : St), Sat (Ω.cf 66 args st) (fun q => q = (PV.d (.int .i64 r), st))) {a0 : Sl Value} {r : Int} (h : Pb53 fu p28 p53 p54 p66 a0 = some r) {args : List PV} (ha : [PV.d (.sl (E.L_Value a0.l) (E.X_Value a0.x))] = args) (st : St) :
    Sat (Ω.cf 53 args st) (fun q => q = (PV.d (.int .i64 r), st)) := by
  subst ha
  rcases a0 with ⟨a0_l, a0_x⟩
  rw [cf_body hΩ (f := 53) (fn := Try.f53) (x := c53) rfl rfl c53_ok rfl]
  unfold Pb53 at h
  try dsimp only at h
  conv => arg 1; cbv
  refine sat_len hΩ (ro_Value hE) a0_l (by first | rfl | (subst_vars; rfl)) fun n1 hn2 => ?_
  conv => arg 1; cbv
  obtain ⟨q, hl13, hz⟩ := Option.bind_eq_some_iff.1 h
  clear h
  have h := hz
  clear hz
  refine sat_loop hΩ (fun (a : Int × Int) => (match a with | (i3, i4) => ([(0, PV.d (.sl (E.L_Value a0_l) (E.X_Value a0_x))), (2, PV.d (.int .i64 0)), (3, PV.d (.int .i64 i3)), (4, PV.d (.int .i64 i4))], ([] : List X.Obj) :: st))) (fun (q : (Int × Int)) => (match q with | (o14, o15) => (.exit 0, [(0, PV.d (.sl (E.L_Value a0_l) (E.X_Value a0_x))), (2, PV.d (.int .i64 0)), (3, PV.d (.int .i64 o14)), (4, PV.d (.int .i64 o15))], ([] : List X.Obj) :: st))) (ln a0_l, 0) hl13 (by first | rfl | (subst_vars; rfl) | (subst_vars; simp only [ln_set])) ?_ ?_
  · clear h hl13
    rintro ⟨i3, i4⟩ q h
    unfold P53_s0 at h
    dsimp only at h
    conv => arg 1; cbv
    refine sat_len hΩ (ro_Value hE) a0_l (by first | rfl | (subst_vars; rfl)) fun n5 hn6 => ?_
    conv => arg 1; cbv
    replace h := bif_cases h
    rcases h with ⟨hb7, h⟩ | ⟨hb7, h⟩
    · refine sat_brt (by first | exact hb7 | (subst_vars; first | exact hb7 | rfl)) ?_
      conv => arg 1; cbv
      refine sat_in hΩ ?_
      conv => arg 1; cbv
      replace h := bif_cases h
      rcases h with ⟨hb8, h⟩ | ⟨hb8, h⟩
      · refine sat_brt (by first | exact hb8 | (subst_vars; first | exact hb8 | rfl)) ?_
        conv => arg 1; cbv
        refine sat_true (fits_l hΩ (ro_Value hE) a0_l (by first | rfl | (subst_vars; rfl))) ?_
        conv => arg 1; cbv
        obtain ⟨⟨x9_Kind, x9_N, x9_S, ⟨x9_L_l, x9_L_x⟩, ⟨x9_F_l, x9_F_x⟩, x9_Elem, x9_Key, x9_HasKey⟩, hx10, hz⟩ := Option.bind_eq_some_iff.1 h
        clear h
        have h := hz
        clear hz
        try dsimp only at h
        refine sat_bind (nth_ok hΩ (ro_Value hE) hx10 (by first | rfl | (subst_vars; rfl)) (by first | rfl | (subst_vars; rfl))) ?_
        conv => arg 1; cbv
        obtain ⟨r11, hx12, hz⟩ := Option.bind_eq_some_iff.1 h
        clear h
        have h := hz
        clear hz
        refine sat_call (hp28 hx12 (by subst_vars; rfl) _) ?_
        conv => arg 1; cbv
        obtain rfl := Option.some.inj h
        subst_vars
        first | exact sat_pure ⟨rfl, rfl, rfl⟩ | (refine sat_pure ⟨rfl, ?_, ?_⟩ <;> first | rfl | (dsimp only; simp only [ln_set]; rfl))
      · refine sat_brf (by first | exact hb8 | (subst_vars; first | exact hb8 | rfl)) ?_
        conv => arg 1; cbv
        obtain rfl := Option.some.inj h
        subst_vars
        first | exact sat_pure (.inl ⟨⟨_, rfl⟩, rfl⟩) | (refine sat_pure (.inl ⟨⟨_, rfl⟩, ?_⟩); dsimp only; simp only [ln_set]; rfl)
    · refine sat_brf (by first | exact hb7 | (subst_vars; first | exact hb7 | rfl)) ?_
      conv => arg 1; cbv
      refine sat_in hΩ ?_
      conv => arg 1; cbv
      obtain rfl := Option.some.inj h
      subst_vars
      first | exact sat_pure (.inl ⟨⟨_, rfl⟩, rfl⟩) | (refine sat_pure (.inl ⟨⟨_, rfl⟩, ?_⟩); dsimp only; simp only [ln_set]; rfl)
  · clear hl13
    rcases q with ⟨o14, o15⟩
    dsimp only at h
    conv => arg 1; cbv
    obtain rfl := Option.some.inj h
    subst_vars
    exact sat_pure rfl
set_option maxHeartbeats 4000000 in
theorem okb54 {Ω : Om} {E : Enc} (hΩ : real (call S) = Ω) (hE : theEnc = E) {fu : Nat} {p28 : Value → Option (Int)} (hp28 : ∀ {a0 : Value} {r : Int}, p28 a0 = some r → ∀ {args : List PV}, [pv_Value E a0] = args → ∀ (st : St), Sat (Ω.cf 28 args st) (fun q => q = (PV.d (.int .i64 r), st))) {p53 : (Sl Value) → Option (Int)} (hp53 : ∀ {a0 : Sl Value} {r : Int}, p53 a0 = some r → ∀ {args : List PV}, [PV.d (.sl (E.L_Value a0.l) (E.X_Value a0.x))] = args → ∀ (st : St), Sat (Ω.cf 53 args st) (fun q => q = (PV.d (.int .i64 r), st))) {p54 : (Sl Field) → Option (Int)} (hp54 : ∀ {a0 : Sl Field} {r : Int}, p54 a0 = some r → ∀ {args : List PV}, [PV.d (.sl (E.L_Field a0.l) (E.X_Field a0.x))] = args → ∀ (st : St), Sat (Ω.cf 54 args st) (fun q => q = (PV.d (.int .i64 r), st))) {p66 : Field → Option (Int)} (hp66 : ∀ {a0 : Field} {r : Int}, p66 a0 = some r → ∀ {args : List PV}, [pv_Field E a0] = args → ∀ (st : St), Sat (Ω.cf 66 args st) (fun q => q = (PV.d (.int .i64 r), st))) {a0 : Sl Field} {r : Int} (h : Pb54 fu p28 p53 p54 p66 a0 = some r) {args : List PV} (ha : [PV.d (.sl (E.L_Field a0.l) (E.X_Field a0.x))] = args) (st : St) :
    Sat (Ω.cf 54 args st) (fun q => q = (PV.d (.int .i64 r), st)) := by
  subst ha
  rcases a0 with ⟨a0_l, a0_x⟩
  rw [cf_body hΩ (f := 54) (fn := Try.f54) (x := c54) rfl rfl c54_ok rfl]
  unfold Pb54 at h
  try dsimp only at h
  conv => arg 1; cbv
  refine sat_len hΩ (ro_Field hE) a0_l (by first | rfl | (subst_vars; rfl)) fun n1 hn2 => ?_
  conv => arg 1; cbv
  obtain ⟨q, hl13, hz⟩ := Option.bind_eq_some_iff.1 h
  clear h
  have h := hz
  clear hz
  refine sat_loop hΩ (fun (a : Int × Int) => (match a with | (i3, i4) => ([(0, PV.d (.sl (E.L_Field a0_l) (E.X_Field a0_x))), (2, PV.d (.int .i64 0)), (3, PV.d (.int .i64 i3)), (4, PV.d (.int .i64 i4))], ([] : List X.Obj) :: st))) (fun (q : (Int × Int)) => (match q with | (o14, o15) => (.exit 0, [(0, PV.d (.sl (E.L_Field a0_l) (E.X_Field a0_x))), (2, PV.d (.int .i64 0)), (3, PV.d (.int .i64 o14)), (4, PV.d (.int .i64 o15))], ([] : List X.Obj) :: st))) (ln a0_l, 0) hl13 (by first | rfl | (subst_vars; rfl) | (subst_vars; simp only [ln_set])) ?_ ?_
  · clear h hl13
    rintro ⟨i3, i4⟩ q h
    unfold P54_s0 at h
    dsimp only at h
    conv => arg 1; cbv
    refine sat_len hΩ (ro_Field hE) a0_l (by first | rfl | (subst_vars; rfl)) fun n5 hn6 => ?_
    conv => arg 1; cbv
    replace h := bif_cases h
    rcases h with ⟨hb7, h⟩ | ⟨hb7, h⟩
    · refine sat_brt (by first | exact hb7 | (subst_vars; first | exact hb7 | rfl)) ?_
      conv => arg 1; cbv
      refine sat_in hΩ ?_
      conv => arg 1; cbv
      replace h := bif_cases h
      rcases h with ⟨hb8, h⟩ | ⟨hb8, h⟩
      · refine sat_brt (by first | exact hb8 | (subst_vars; first | exact hb8 | rfl)) ?_
        conv => arg 1; cbv
        refine sat_true (fits_l hΩ (ro_Field hE) a0_l (by first | rfl | (subst_vars; rfl))) ?_
        conv => arg 1; cbv
        obtain ⟨⟨x9_Name, ⟨x9_Value_Kind, x9_Value_N, x9_Value_S, ⟨x9_Value_L_l, x9_Value_L_x⟩, ⟨x9_Value_F_l, x9_Value_F_x⟩, x9_Value_Elem, x9_Value_Key, x9_Value_HasKey⟩⟩, hx10, hz⟩ := Option.bind_eq_some_iff.1 h
        clear h
        have h := hz
        clear hz
        try dsimp only at h
        refine sat_bind (nth_ok hΩ (ro_Field hE) hx10 (by first | rfl | (subst_vars; rfl)) (by first | rfl | (subst_vars; rfl))) ?_
        conv => arg 1; cbv
        obtain ⟨r11, hx12, hz⟩ := Option.bind_eq_some_iff.1 h
        clear h
        have h := hz
        clear hz
        refine sat_call (hp66 hx12 (by subst_vars; rfl) _) ?_
        conv => arg 1; cbv
        obtain rfl := Option.some.inj h
        subst_vars
        first | exact sat_pure ⟨rfl, rfl, rfl⟩ | (refine sat_pure ⟨rfl, ?_, ?_⟩ <;> first | rfl | (dsimp only; simp only [ln_set]; rfl))
      · refine sat_brf (by first | exact hb8 | (subst_vars; first | exact hb8 | rfl)) ?_
        conv => arg 1; cbv
        obtain rfl := Option.some.inj h
        subst_vars
        first | exact sat_pure (.inl ⟨⟨_, rfl⟩, rfl⟩) | (refine sat_pure (.inl ⟨⟨_, rfl⟩, ?_⟩); dsimp only; simp only [ln_set]; rfl)
    · refine sat_brf (by first | exact hb7 | (subst_vars; first | exact hb7 | rfl)) ?_
      conv => arg 1; cbv
      refine sat_in hΩ ?_
      conv => arg 1; cbv
      obtain rfl := Option.some.inj h
      subst_vars
      first | exact sat_pure (.inl ⟨⟨_, rfl⟩, rfl⟩) | (refine sat_pure (.inl ⟨⟨_, rfl⟩, ?_⟩); dsimp only; simp only [ln_set]; rfl)
  · clear hl13
    rcases q with ⟨o14, o15⟩
    dsimp only at h
    conv => arg 1; cbv
    obtain rfl := Option.some.inj h
    subst_vars
    exact sat_pure rfl
set_option maxHeartbeats 4000000 in
theorem okb66 {Ω : Om} {E : Enc} (hΩ : real (call S) = Ω) (hE : theEnc = E) {fu : Nat} {p28 : Value → Option (Int)} (hp28 : ∀ {a0 : Value} {r : Int}, p28 a0 = some r → ∀ {args : List PV}, [pv_Value E a0] = args → ∀ (st : St), Sat (Ω.cf 28 args st) (fun q => q = (PV.d (.int .i64 r), st))) {p53 : (Sl Value) → Option (Int)} (hp53 : ∀ {a0 : Sl Value} {r : Int}, p53 a0 = some r → ∀ {args : List PV}, [PV.d (.sl (E.L_Value a0.l) (E.X_Value a0.x))] = args → ∀ (st : St), Sat (Ω.cf 53 args st) (fun q => q = (PV.d (.int .i64 r), st))) {p54 : (Sl Field) → Option (Int)} (hp54 : ∀ {a0 : Sl Field} {r : Int}, p54 a0 = some r → ∀ {args : List PV}, [PV.d (.sl (E.L_Field a0.l) (E.X_Field a0.x))] = args → ∀ (st : St), Sat (Ω.cf 54 args st) (fun q => q = (PV.d (.int .i64 r), st))) {p66 : Field → Option (Int)} (hp66 : ∀ {a0 : Field} {r : Int}, p66 a0 = some r → ∀ {args : List PV}, [pv_Field E a0] = args → ∀ (st : St), Sat (Ω.cf 66 args st) (fun q => q = (PV.d (.int .i64 r), st))) {a0 : Field} {r : Int} (h : Pb66 fu p28 p53 p54 p66 a0 = some r) {args : List PV} (ha : [pv_Field E a0] = args) (st : St) :
    Sat (Ω.cf 66 args st) (fun q => q = (PV.d (.int .i64 r), st)) := by
  subst ha
  rcases a0 with ⟨a0_Name, ⟨a0_Value_Kind, a0_Value_N, a0_Value_S, ⟨a0_Value_L_l, a0_Value_L_x⟩, ⟨a0_Value_F_l, a0_Value_F_x⟩, a0_Value_Elem, a0_Value_Key, a0_Value_HasKey⟩⟩
  rw [cf_body hΩ (f := 66) (fn := Try.f66) (x := c66) rfl rfl c66_ok rfl]
  unfold Pb66 at h
  try dsimp only at h
  conv => arg 1; cbv
  refine sat_in hΩ ?_
  conv => arg 1; cbv
  replace h := bif_cases h
  rcases h with ⟨hb1, h⟩ | ⟨hb1, h⟩
  · refine sat_brt (by first | exact hb1 | (subst_vars; first | exact hb1 | rfl)) ?_
    conv => arg 1; cbv
    obtain ⟨r2, hx3, hz⟩ := Option.bind_eq_some_iff.1 h
    clear h
    have h := hz
    clear hz
    refine sat_call (hp28 hx3 (by subst_vars; rfl) _) ?_
    conv => arg 1; cbv
    obtain rfl := Option.some.inj h
    subst_vars
    exact sat_pure rfl
  · refine sat_brf (by first | exact hb1 | (subst_vars; first | exact hb1 | rfl)) ?_
    conv => arg 1; cbv
    obtain rfl := Option.some.inj h
    subst_vars
    exact sat_pure rfl
theorem okr28 {Ω : Om} {E : Enc} (hΩ : real (call S) = Ω) (hE : theEnc = E) : ∀ fu,
    (∀ {a0 : Value} {r : Int}, P28 fu a0 = some r → ∀ {args : List PV}, [pv_Value E a0] = args → ∀ (st : St), Sat (Ω.cf 28 args st) (fun q => q = (PV.d (.int .i64 r), st))) ∧
    (∀ {a0 : Sl Value} {r : Int}, P53 fu a0 = some r → ∀ {args : List PV}, [PV.d (.sl (E.L_Value a0.l) (E.X_Value a0.x))] = args → ∀ (st : St), Sat (Ω.cf 53 args st) (fun q => q = (PV.d (.int .i64 r), st))) ∧
    (∀ {a0 : Sl Field} {r : Int}, P54 fu a0 = some r → ∀ {args : List PV}, [PV.d (.sl (E.L_Field a0.l) (E.X_Field a0.x))] = args → ∀ (st : St), Sat (Ω.cf 54 args st) (fun q => q = (PV.d (.int .i64 r), st))) ∧
    (∀ {a0 : Field} {r : Int}, P66 fu a0 = some r → ∀ {args : List PV}, [pv_Field E a0] = args → ∀ (st : St), Sat (Ω.cf 66 args st) (fun q => q = (PV.d (.int .i64 r), st))) := by
  intro fu
  induction fu with
  | zero => exact ⟨(fun h => (by cases h)), (fun h => (by cases h)), (fun h => (by cases h)), (fun h => (by cases h))⟩
  | succ fu ih =>
    obtain ⟨i28, i53, i54, i66⟩ := ih
    exact ⟨(fun h => @fun args ha st => okb28 (fu := fu) hΩ hE i28 i53 i54 i66 h ha st), (fun h => @fun args ha st => okb53 (fu := fu) hΩ hE i28 i53 i54 i66 h ha st), (fun h => @fun args ha st => okb54 (fu := fu) hΩ hE i28 i53 i54 i66 h ha st), (fun h => @fun args ha st => okb66 (fu := fu) hΩ hE i28 i53 i54 i66 h ha st)⟩
theorem ok28 {Ω : Om} {E : Enc} (hΩ : real (call S) = Ω) (hE : theEnc = E) {fu : Nat} : ∀ {a0 : Value} {r : Int}, P28 fu a0 = some r → ∀ {args : List PV}, [pv_Value E a0] = args → ∀ (st : St), Sat (Ω.cf 28 args st) (fun q => q = (PV.d (.int .i64 r), st)) := (okr28 hΩ hE fu).1
theorem ok53 {Ω : Om} {E : Enc} (hΩ : real (call S) = Ω) (hE : theEnc = E) {fu : Nat} : ∀ {a0 : Sl Value} {r : Int}, P53 fu a0 = some r → ∀ {args : List PV}, [PV.d (.sl (E.L_Value a0.l) (E.X_Value a0.x))] = args → ∀ (st : St), Sat (Ω.cf 53 args st) (fun q => q = (PV.d (.int .i64 r), st)) := (okr28 hΩ hE fu).2.1
theorem ok54 {Ω : Om} {E : Enc} (hΩ : real (call S) = Ω) (hE : theEnc = E) {fu : Nat} : ∀ {a0 : Sl Field} {r : Int}, P54 fu a0 = some r → ∀ {args : List PV}, [PV.d (.sl (E.L_Field a0.l) (E.X_Field a0.x))] = args → ∀ (st : St), Sat (Ω.cf 54 args st) (fun q => q = (PV.d (.int .i64 r), st)) := (okr28 hΩ hE fu).2.2.1
theorem ok66 {Ω : Om} {E : Enc} (hΩ : real (call S) = Ω) (hE : theEnc = E) {fu : Nat} : ∀ {a0 : Field} {r : Int}, P66 fu a0 = some r → ∀ {args : List PV}, [pv_Field E a0] = args → ∀ (st : St), Sat (Ω.cf 66 args st) (fun q => q = (PV.d (.int .i64 r), st)) := (okr28 hΩ hE fu).2.2.2
set_option maxHeartbeats 4000000 in
theorem ok65 {Ω : Om} {E : Enc} (hΩ : real (call S) = Ω) (hE : theEnc = E) {fu : Nat} {a0 : Child} {r : Int} (h : P65 fu a0 = some r) {args : List PV} (ha : [pv_Child E a0] = args) (st : St) :
    Sat (Ω.cf 65 args st) (fun q => q = (PV.d (.int .i64 r), st)) := by
  subst ha
  rcases a0 with ⟨a0_Key, a0_Kind, a0_Name, ⟨a0_Value_Kind, a0_Value_N, a0_Value_S, ⟨a0_Value_L_l, a0_Value_L_x⟩, ⟨a0_Value_F_l, a0_Value_F_x⟩, a0_Value_Elem, a0_Value_Key, a0_Value_HasKey⟩⟩
  rw [cf_body hΩ (f := 65) (fn := Try.f65) (x := c65) rfl rfl c65_ok rfl]
  unfold P65 at h
  try dsimp only at h
  conv => arg 1; cbv
  refine sat_in hΩ ?_
  conv => arg 1; cbv
  replace h := bif_cases h
  rcases h with ⟨hb1, h⟩ | ⟨hb1, h⟩
  · refine sat_brt (by first | exact hb1 | (subst_vars; first | exact hb1 | rfl)) ?_
    conv => arg 1; cbv
    obtain ⟨r2, hx3, hz⟩ := Option.bind_eq_some_iff.1 h
    clear h
    have h := hz
    clear hz
    refine sat_call (ok28 hΩ hE hx3 (by subst_vars; rfl) _) ?_
    conv => arg 1; cbv
    obtain rfl := Option.some.inj h
    subst_vars
    exact sat_pure rfl
  · refine sat_brf (by first | exact hb1 | (subst_vars; first | exact hb1 | rfl)) ?_
    conv => arg 1; cbv
    obtain rfl := Option.some.inj h
    subst_vars
    exact sat_pure rfl
set_option maxHeartbeats 4000000 in
theorem ok52 {Ω : Om} {E : Enc} (hΩ : real (call S) = Ω) (hE : theEnc = E) {fu : Nat} {a0 : Sl Child} {r : Int} (h : P52 fu a0 = some r) {args : List PV} (ha : [PV.d (.sl (E.L_Child a0.l) (E.X_Child a0.x))] = args) (st : St) :
    Sat (Ω.cf 52 args st) (fun q => q = (PV.d (.int .i64 r), st)) := by
  subst ha
  rcases a0 with ⟨a0_l, a0_x⟩
  rw [cf_body hΩ (f := 52) (fn := Try.f52) (x := c52) rfl rfl c52_ok rfl]
  unfold P52 at h
  try dsimp only at h
  conv => arg 1; cbv
  refine sat_len hΩ (ro_Child hE) a0_l (by first | rfl | (subst_vars; rfl)) fun n1 hn2 => ?_
  conv => arg 1; cbv
  obtain ⟨q, hl13, hz⟩ := Option.bind_eq_some_iff.1 h
  clear h
  have h := hz
  clear hz
  refine sat_loop hΩ (fun (a : Int × Int) => (match a with | (i3, i4) => ([(0, PV.d (.sl (E.L_Child a0_l) (E.X_Child a0_x))), (2, PV.d (.int .i64 0)), (3, PV.d (.int .i64 i3)), (4, PV.d (.int .i64 i4))], ([] : List X.Obj) :: st))) (fun (q : (Int × Int)) => (match q with | (o14, o15) => (.exit 0, [(0, PV.d (.sl (E.L_Child a0_l) (E.X_Child a0_x))), (2, PV.d (.int .i64 0)), (3, PV.d (.int .i64 o14)), (4, PV.d (.int .i64 o15))], ([] : List X.Obj) :: st))) (ln a0_l, 0) hl13 (by first | rfl | (subst_vars; rfl) | (subst_vars; simp only [ln_set])) ?_ ?_
  · clear h hl13
    rintro ⟨i3, i4⟩ q h
    unfold P52_s0 at h
    dsimp only at h
    conv => arg 1; cbv
    refine sat_len hΩ (ro_Child hE) a0_l (by first | rfl | (subst_vars; rfl)) fun n5 hn6 => ?_
    conv => arg 1; cbv
    replace h := bif_cases h
    rcases h with ⟨hb7, h⟩ | ⟨hb7, h⟩
    · refine sat_brt (by first | exact hb7 | (subst_vars; first | exact hb7 | rfl)) ?_
      conv => arg 1; cbv
      refine sat_in hΩ ?_
      conv => arg 1; cbv
      replace h := bif_cases h
      rcases h with ⟨hb8, h⟩ | ⟨hb8, h⟩
      · refine sat_brt (by first | exact hb8 | (subst_vars; first | exact hb8 | rfl)) ?_
        conv => arg 1; cbv
        refine sat_true (fits_l hΩ (ro_Child hE) a0_l (by first | rfl | (subst_vars; rfl))) ?_
        conv => arg 1; cbv
        obtain ⟨⟨x9_Key, x9_Kind, x9_Name, ⟨x9_Value_Kind, x9_Value_N, x9_Value_S, ⟨x9_Value_L_l, x9_Value_L_x⟩, ⟨x9_Value_F_l, x9_Value_F_x⟩, x9_Value_Elem, x9_Value_Key, x9_Value_HasKey⟩⟩, hx10, hz⟩ := Option.bind_eq_some_iff.1 h
        clear h
        have h := hz
        clear hz
        try dsimp only at h
        refine sat_bind (nth_ok hΩ (ro_Child hE) hx10 (by first | rfl | (subst_vars; rfl)) (by first | rfl | (subst_vars; rfl))) ?_
        conv => arg 1; cbv
        obtain ⟨r11, hx12, hz⟩ := Option.bind_eq_some_iff.1 h
        clear h
        have h := hz
        clear hz
        refine sat_call (ok65 hΩ hE hx12 (by subst_vars; rfl) _) ?_
        conv => arg 1; cbv
        obtain rfl := Option.some.inj h
        subst_vars
        first | exact sat_pure ⟨rfl, rfl, rfl⟩ | (refine sat_pure ⟨rfl, ?_, ?_⟩ <;> first | rfl | (dsimp only; simp only [ln_set]; rfl))
      · refine sat_brf (by first | exact hb8 | (subst_vars; first | exact hb8 | rfl)) ?_
        conv => arg 1; cbv
        obtain rfl := Option.some.inj h
        subst_vars
        first | exact sat_pure (.inl ⟨⟨_, rfl⟩, rfl⟩) | (refine sat_pure (.inl ⟨⟨_, rfl⟩, ?_⟩); dsimp only; simp only [ln_set]; rfl)
    · refine sat_brf (by first | exact hb7 | (subst_vars; first | exact hb7 | rfl)) ?_
      conv => arg 1; cbv
      refine sat_in hΩ ?_
      conv => arg 1; cbv
      obtain rfl := Option.some.inj h
      subst_vars
      first | exact sat_pure (.inl ⟨⟨_, rfl⟩, rfl⟩) | (refine sat_pure (.inl ⟨⟨_, rfl⟩, ?_⟩); dsimp only; simp only [ln_set]; rfl)
  · clear hl13
    rcases q with ⟨o14, o15⟩
    dsimp only at h
    conv => arg 1; cbv
    obtain rfl := Option.some.inj h
    subst_vars
    exact sat_pure rfl
set_option maxHeartbeats 4000000 in
theorem ok25 {Ω : Om} {E : Enc} (hΩ : real (call S) = Ω) (hE : theEnc = E) {fu : Nat} {a0 : Sl Child} {a1 : Sl Child} {r : Bool} (h : P25 fu a0 a1 = some r) {args : List PV} (ha : [PV.d (.sl (E.L_Child a0.l) (E.X_Child a0.x)), PV.d (.sl (E.L_Child a1.l) (E.X_Child a1.x))] = args) (st : St) :
    Sat (Ω.cf 25 args st) (fun q => q = (PV.d (.bool r), st)) := by
  subst ha
  rcases a0 with ⟨a0_l, a0_x⟩
  rcases a1 with ⟨a1_l, a1_x⟩
  rw [cf_body hΩ (f := 25) (fn := Try.f25) (x := c25) rfl rfl c25_ok rfl]
  unfold P25 at h
  try dsimp only at h
  conv => arg 1; cbv
  refine sat_len hΩ (ro_Child hE) a0_l (by first | rfl | (subst_vars; rfl)) fun n1 hn2 => ?_
  conv => arg 1; cbv
  replace h := bif_cases h
  rcases h with ⟨hb3, h⟩ | ⟨hb3, h⟩
  · refine sat_brt (by first | exact hb3 | (subst_vars; first | exact hb3 | rfl)) ?_
    conv => arg 1; cbv
    refine sat_len hΩ (ro_Child hE) a1_l (by first | rfl | (subst_vars; rfl)) fun n4 hn5 => ?_
    conv => arg 1; cbv
    replace h := bif_cases h
    rcases h with ⟨hb6, h⟩ | ⟨hb6, h⟩
    · refine sat_brt (by first | exact hb6 | (subst_vars; first | exact hb6 | rfl)) ?_
      conv => arg 1; cbv
      obtain ⟨r7, hx8, hz⟩ := Option.bind_eq_some_iff.1 h
      clear h
      have h := hz
      clear hz
      refine sat_call (ok52 hΩ hE hx8 (by subst_vars; rfl) _) ?_
      conv => arg 1; cbv
      refine sat_tick hΩ ?_
      conv => arg 1; cbv
      obtain ⟨r9, hx10, hz⟩ := Option.bind_eq_some_iff.1 h
      clear h
      have h := hz
      clear hz
      refine sat_call (ok52 hΩ hE hx10 (by subst_vars; rfl) _) ?_
      conv => arg 1; cbv
      obtain ⟨r11, hx12, hz⟩ := Option.bind_eq_some_iff.1 h
      clear h
      have h := hz
      clear hz
      refine sat_call (ok19 hΩ hE hx12 (by subst_vars; rfl) _) ?_
      conv => arg 1; cbv
      obtain rfl := Option.some.inj h
      subst_vars
      exact sat_pure rfl
    · refine sat_brf (by first | exact hb6 | (subst_vars; first | exact hb6 | rfl)) ?_
      conv => arg 1; cbv
      refine sat_tick hΩ ?_
      conv => arg 1; cbv
      obtain rfl := Option.some.inj h
      subst_vars
      exact sat_pure rfl
  · refine sat_brf (by first | exact hb3 | (subst_vars; first | exact hb3 | rfl)) ?_
    conv => arg 1; cbv
    refine sat_tick hΩ ?_
    conv => arg 1; cbv
    obtain rfl := Option.some.inj h
    subst_vars
    exact sat_pure rfl
set_option maxHeartbeats 4000000 in
theorem ok27 {Ω : Om} {E : Enc} (hΩ : real (call S) = Ω) (hE : theEnc = E) {fu : Nat} {a0 : Sl Child} {r : Bool} (h : P27 fu a0 = some r) {args : List PV} (ha : [PV.d (.sl (E.L_Child a0.l) (E.X_Child a0.x))] = args) (st : St) :
    Sat (Ω.cf 27 args st) (fun q => q = (PV.d (.bool r), st)) := by
  subst ha
  rcases a0 with ⟨a0_l, a0_x⟩
  rw [cf_body hΩ (f := 27) (fn := Try.f27) (x := c27) rfl rfl c27_ok rfl]
  unfold P27 at h
  try dsimp only at h
  conv => arg 1; cbv
  obtain ⟨q, hl15, hz⟩ := Option.bind_eq_some_iff.1 h
  clear h
  have h := hz
  clear hz
  refine sat_loop hΩ (fun (a : Int) => (match a with | i1 => ([(0, PV.d (.sl (E.L_Child a0_l) (E.X_Child a0_x))), (2, PV.d (.bool false)), (3, PV.d (.int .i64 i1))], ([] : List X.Obj) :: st))) (fun (q : Int ⊕ Int) => (match q with | .inl o16 => (.exit 0, [(0, PV.d (.sl (E.L_Child a0_l) (E.X_Child a0_x))), (2, PV.d (.bool false)), (3, PV.d (.int .i64 o16))], ([] : List X.Obj) :: st) | .inr o17 => (.ret, [(0, PV.d (.sl (E.L_Child a0_l) (E.X_Child a0_x))), (2, PV.d (.bool false)), (3, PV.d (.int .i64 o17))], ([] : List X.Obj) :: st))) 0 hl15 (by first | rfl | (subst_vars; rfl) | (subst_vars; simp only [ln_set])) ?_ ?_
  · clear h hl15
    rintro i1 q h
    unfold P27_s0 at h
    dsimp only at h
    conv => arg 1; cbv
    refine sat_len hΩ (ro_Child hE) a0_l (by first | rfl | (subst_vars; rfl)) fun n2 hn3 => ?_
    conv => arg 1; cbv
    refine sat_in hΩ ?_
    conv => arg 1; cbv
    replace h := bif_cases h
    rcases h with ⟨hb4, h⟩ | ⟨hb4, h⟩
    · refine sat_brt (by first | exact hb4 | (subst_vars; first | exact hb4 | rfl)) ?_
      conv => arg 1; cbv
      obtain ⟨q, hl12, hz⟩ := Option.bind_eq_some_iff.1 h
      clear h
      have h := hz
      clear hz
      refine sat_loop hΩ (fun (a : Int) => (match a with | i5 => ([(0, PV.d (.sl (E.L_Child a0_l) (E.X_Child a0_x))), (2, PV.d (.bool false)), (3, PV.d (.int .i64 i1)), (4, PV.d (.int .i64 i5))], ([] : List X.Obj) :: st))) (fun (q : Int ⊕ Int) => (match q with | .inl o13 => (.exit 2, [(0, PV.d (.sl (E.L_Child a0_l) (E.X_Child a0_x))), (2, PV.d (.bool false)), (3, PV.d (.int .i64 i1)), (4, PV.d (.int .i64 o13))], ([] : List X.Obj) :: st) | .inr o14 => (.ret, [(0, PV.d (.sl (E.L_Child a0_l) (E.X_Child a0_x))), (2, PV.d (.bool false)), (3, PV.d (.int .i64 i1)), (4, PV.d (.int .i64 o14))], ([] : List X.Obj) :: st))) 0 hl12 (by first | rfl | (subst_vars; rfl) | (subst_vars; simp only [ln_set])) ?_ ?_
      · clear h hl12
        rintro i5 q h
        unfold P27_s1 at h
        dsimp only at h
        conv => arg 1; cbv
        refine sat_in hΩ ?_
        conv => arg 1; cbv
        replace h := bif_cases h
        rcases h with ⟨hb6, h⟩ | ⟨hb6, h⟩
        · refine sat_brt (by first | exact hb6 | (subst_vars; first | exact hb6 | rfl)) ?_
          conv => arg 1; cbv
          refine sat_true (fits_l hΩ (ro_Child hE) a0_l (by first | rfl | (subst_vars; rfl))) ?_
          conv => arg 1; cbv
          obtain ⟨⟨x7_Key, x7_Kind, x7_Name, ⟨x7_Value_Kind, x7_Value_N, x7_Value_S, ⟨x7_Value_L_l, x7_Value_L_x⟩, ⟨x7_Value_F_l, x7_Value_F_x⟩, x7_Value_Elem, x7_Value_Key, x7_Value_HasKey⟩⟩, hx8, hz⟩ := Option.bind_eq_some_iff.1 h
          clear h
          have h := hz
          clear hz
          try dsimp only at h
          refine sat_bind (nth_ok hΩ (ro_Child hE) hx8 (by first | rfl | (subst_vars; rfl)) (by first | rfl | (subst_vars; rfl))) ?_
          conv => arg 1; cbv
          refine sat_true (fits_l hΩ (ro_Child hE) a0_l (by first | rfl | (subst_vars; rfl))) ?_
          conv => arg 1; cbv
          obtain ⟨⟨x9_Key, x9_Kind, x9_Name, ⟨x9_Value_Kind, x9_Value_N, x9_Value_S, ⟨x9_Value_L_l, x9_Value_L_x⟩, ⟨x9_Value_F_l, x9_Value_F_x⟩, x9_Value_Elem, x9_Value_Key, x9_Value_HasKey⟩⟩, hx10, hz⟩ := Option.bind_eq_some_iff.1 h
          clear h
          have h := hz
          clear hz
          try dsimp only at h
          refine sat_bind (nth_ok hΩ (ro_Child hE) hx10 (by first | rfl | (subst_vars; rfl)) (by first | rfl | (subst_vars; rfl))) ?_
          conv => arg 1; cbv
          refine sat_in hΩ ?_
          conv => arg 1; cbv
          replace h := bif_cases h
          rcases h with ⟨hb11, h⟩ | ⟨hb11, h⟩
          · refine sat_brt (by first | exact hb11 | (subst_vars; first | exact hb11 | rfl)) ?_
            conv => arg 1; cbv
            obtain rfl := Option.some.inj h
            subst_vars
            first | exact sat_pure (.inr ⟨rfl, rfl⟩) | (refine sat_pure (.inr ⟨rfl, ?_⟩); dsimp only; simp only [ln_set]; rfl)
          · refine sat_brf (by first | exact hb11 | (subst_vars; first | exact hb11 | rfl)) ?_
            conv => arg 1; cbv
            obtain rfl := Option.some.inj h
            subst_vars
            first | exact sat_pure ⟨rfl, rfl, rfl⟩ | (refine sat_pure ⟨rfl, ?_, ?_⟩ <;> first | rfl | (dsimp only; simp only [ln_set]; rfl))
        · refine sat_brf (by first | exact hb6 | (subst_vars; first | exact hb6 | rfl)) ?_
          conv => arg 1; cbv
          obtain rfl := Option.some.inj h
          subst_vars
          first | exact sat_pure (.inl ⟨⟨_, rfl⟩, rfl⟩) | (refine sat_pure (.inl ⟨⟨_, rfl⟩, ?_⟩); dsimp only; simp only [ln_set]; rfl)
      · clear hl12
        rcases q with o13 | o14
        · dsimp only at h
          conv => arg 1; cbv
          obtain rfl := Option.some.inj h
          subst_vars
          first | exact sat_pure ⟨rfl, rfl, rfl⟩ | (refine sat_pure ⟨rfl, ?_, ?_⟩ <;> first | rfl | (dsimp only; simp only [ln_set]; rfl))
        · dsimp only at h
          conv => arg 1; cbv
          obtain rfl := Option.some.inj h
          subst_vars
          first | exact sat_pure (.inr ⟨rfl, rfl⟩) | (refine sat_pure (.inr ⟨rfl, ?_⟩); dsimp only; simp only [ln_set]; rfl)
    · refine sat_brf (by first | exact hb4 | (subst_vars; first | exact hb4 | rfl)) ?_
      conv => arg 1; cbv
      obtain rfl := Option.some.inj h
      subst_vars
      first | exact sat_pure (.inl ⟨⟨_, rfl⟩, rfl⟩) | (refine sat_pure (.inl ⟨⟨_, rfl⟩, ?_⟩); dsimp only; simp only [ln_set]; rfl)
  · clear hl15
    rcases q with o16 | o17
    · dsimp only at h
      conv => arg 1; cbv
      obtain rfl := Option.some.inj h
      subst_vars
      exact sat_pure rfl
    · dsimp only at h
      conv => arg 1; cbv
      obtain rfl := Option.some.inj h
      subst_vars
      exact sat_pure rfl
set_option maxHeartbeats 4000000 in
theorem ok6 {Ω : Om} {E : Enc} (hΩ : real (call S) = Ω) (hE : theEnc = E) {fu : Nat} {a0 : Sl Child} {a1 : Sl Child} {r : Bool} (h : P6 fu a0 a1 = some r) {args : List PV} (ha : [PV.d (.sl (E.L_Child a0.l) (E.X_Child a0.x)), PV.d (.sl (E.L_Child a1.l) (E.X_Child a1.x))] = args) (st : St) :
    Sat (Ω.cf 6 args st) (fun q => q = (PV.d (.bool r), st)) := by
  subst ha
  rcases a0 with ⟨a0_l, a0_x⟩
  rcases a1 with ⟨a1_l, a1_x⟩
  rw [cf_body hΩ (f := 6) (fn := Try.f6) (x := c6) rfl rfl c6_ok rfl]
  unfold P6 at h
  try dsimp only at h
  conv => arg 1; cbv
  obtain ⟨r1, hx2, hz⟩ := Option.bind_eq_some_iff.1 h
  clear h
  have h := hz
  clear hz
  refine sat_call (ok24 hΩ hE hx2 (by subst_vars; rfl) _) ?_
  conv => arg 1; cbv
  replace h := bif_cases h
  rcases h with ⟨hb3, h⟩ | ⟨hb3, h⟩
  · refine sat_brt (by first | exact hb3 | (subst_vars; first | exact hb3 | rfl)) ?_
    conv => arg 1; cbv
    obtain ⟨r4, hx5, hz⟩ := Option.bind_eq_some_iff.1 h
    clear h
    have h := hz
    clear hz
    refine sat_call (ok25 hΩ hE hx5 (by subst_vars; rfl) _) ?_
    conv => arg 1; cbv
    replace h := bif_cases h
    rcases h with ⟨hb6, h⟩ | ⟨hb6, h⟩
    · refine sat_brt (by first | exact hb6 | (subst_vars; first | exact hb6 | rfl)) ?_
      conv => arg 1; cbv
      obtain ⟨r7, hx8, hz⟩ := Option.bind_eq_some_iff.1 h
      clear h
      have h := hz
      clear hz
      refine sat_call (ok27 hΩ hE hx8 (by subst_vars; rfl) _) ?_
      conv => arg 1; cbv
      refine sat_tick hΩ ?_
      conv => arg 1; cbv
      replace h := bif_cases h
      rcases h with ⟨hb9, h⟩ | ⟨hb9, h⟩
      · refine sat_brt (by first | exact hb9 | (subst_vars; first | exact hb9 | rfl)) ?_
        conv => arg 1; cbv
        obtain ⟨r10, hx11, hz⟩ := Option.bind_eq_some_iff.1 h
        clear h
        have h := hz
        clear hz
        refine sat_call (ok27 hΩ hE hx11 (by subst_vars; rfl) _) ?_
        conv => arg 1; cbv
        refine sat_in hΩ ?_
        conv => arg 1; cbv
        replace h := bif_cases h
        rcases h with ⟨hb12, h⟩ | ⟨hb12, h⟩
        · refine sat_brt (by first | exact hb12 | (subst_vars; first | exact hb12 | rfl)) ?_
          conv => arg 1; cbv
          obtain ⟨r13, hx14, hz⟩ := Option.bind_eq_some_iff.1 h
          clear h
          have h := hz
          clear hz
          refine sat_call (ok24 hΩ hE hx14 (by subst_vars; rfl) _) ?_
          conv => arg 1; cbv
          obtain rfl := Option.some.inj h
          subst_vars
          exact sat_pure rfl
        · refine sat_brf (by first | exact hb12 | (subst_vars; first | exact hb12 | rfl)) ?_
          conv => arg 1; cbv
          obtain ⟨⟨r15_l, r15_x⟩, hx16, hz⟩ := Option.bind_eq_some_iff.1 h
          clear h
          have h := hz
          clear hz
          try dsimp only at h
          refine sat_call (ok26 hΩ hE hx16 (by subst_vars; rfl) _) ?_
          conv => arg 1; cbv
          obtain ⟨⟨r17_l, r17_x⟩, hx18, hz⟩ := Option.bind_eq_some_iff.1 h
          clear h
          have h := hz
          clear hz
          try dsimp only at h
          refine sat_call (ok26 hΩ hE hx18 (by subst_vars; rfl) _) ?_
          conv => arg 1; cbv
          refine sat_nil hΩ (ro_Child hE) fun l19 hl20 => ?_
          conv => arg 1; cbv
          refine sat_len hΩ (ro_Child hE) a0_l (by first | rfl | (subst_vars; rfl)) fun n21 hn22 => ?_
          conv => arg 1; cbv
          obtain ⟨q, hl33, hz⟩ := Option.bind_eq_some_iff.1 h
          clear h
          have h := hz
          clear hz
          refine sat_loop hΩ (fun (a : (List Child) × Int) => (match a with | (l23, i24) => ([(0, PV.d (.sl (E.L_Child a0_l) (E.X_Child a0_x))), (1, PV.d (.sl (E.L_Child a1_l) (E.X_Child a1_x))), (4, PV.d (.bool false)), (5, PV.d (.sl (E.L_i_i64 r15_l) (E.X_i_i64 r15_x))), (6, PV.d (.sl (E.L_i_i64 r17_l) (E.X_i_i64 r17_x))), (7, PV.row 0 0 (ln l23)), (8, PV.d (.int .i64 i24))], ([X.Obj.row 29 11 (E.L_Child l23) false none] : List X.Obj) :: st))) (fun (q : ((List Child) × Int)) => (match q with | (o34, o35) => (.exit 0, [(0, PV.d (.sl (E.L_Child a0_l) (E.X_Child a0_x))), (1, PV.d (.sl (E.L_Child a1_l) (E.X_Child a1_x))), (4, PV.d (.bool false)), (5, PV.d (.sl (E.L_i_i64 r15_l) (E.X_i_i64 r15_x))), (6, PV.d (.sl (E.L_i_i64 r17_l) (E.X_i_i64 r17_x))), (7, PV.row 0 0 (ln o34)), (8, PV.d (.int .i64 o35))], ([X.Obj.row 29 11 (E.L_Child o34) false none] : List X.Obj) :: st))) (([] : List Child), w64 ((ln a0_l) - 1)) hl33 (by first | rfl | (subst_vars; rfl) | (subst_vars; simp only [ln_set])) ?_ ?_
          · clear h hl33
            rintro ⟨l23, i24⟩ q h
            unfold P6_s0 at h
            dsimp only at h
            obtain ⟨ln_l23, hln_l23⟩ : ∃ n, ln l23 = n := ⟨_, rfl⟩
            simp only [hln_l23]
            conv => arg 1; cbv
            refine sat_in hΩ ?_
            conv => arg 1; cbv
            replace h := bif_cases h
            rcases h with ⟨hb25, h⟩ | ⟨hb25, h⟩
            · refine sat_brt (by first | exact hb25 | (subst_vars; first | exact hb25 | rfl)) ?_
              conv => arg 1; cbv
              refine sat_true (fits_l hΩ (ro_Child hE) a0_l (by first | rfl | (subst_vars; rfl))) ?_
              conv => arg 1; cbv
              obtain ⟨⟨x26_Key, x26_Kind, x26_Name, ⟨x26_Value_Kind, x26_Value_N, x26_Value_S, ⟨x26_Value_L_l, x26_Value_L_x⟩, ⟨x26_Value_F_l, x26_Value_F_x⟩, x26_Value_Elem, x26_Value_Key, x26_Value_HasKey⟩⟩, hx27, hz⟩ := Option.bind_eq_some_iff.1 h
              clear h
              have h := hz
              clear hz
              try dsimp only at h
              refine sat_bind (nth_ok hΩ (ro_Child hE) hx27 (by first | rfl | (subst_vars; rfl)) (by first | rfl | (subst_vars; rfl))) ?_
              conv => arg 1; cbv
              refine sat_true (ieq_ok hΩ _) ?_
              conv => arg 1; cbv
              refine sat_true (fits_l hΩ (ro_Child hE) [(Child.mk x26_Key x26_Kind x26_Name (Value.mk x26_Value_Kind x26_Value_N x26_Value_S (Sl.mk x26_Value_L_l x26_Value_L_x) (Sl.mk x26_Value_F_l x26_Value_F_x) x26_Value_Elem x26_Value_Key x26_Value_HasKey))] (by first | rfl | (subst_vars; rfl))) ?_
              conv => arg 1; cbv
              refine sat_true (len_ok hΩ (ro_Child hE) l23 (by first | rfl | (subst_vars; rfl) | (subst_vars; simp only [ln_set])) (by first | rfl | (subst_vars; rfl) | (subst_vars; simp only [ln_set]))) ?_
              conv => arg 1; cbv
              refine sat_brf (len_zero hΩ (ro_Child hE) (l := [(Child.mk x26_Key x26_Kind x26_Name (Value.mk x26_Value_Kind x26_Value_N x26_Value_S (Sl.mk x26_Value_L_l x26_Value_L_x) (Sl.mk x26_Value_F_l x26_Value_F_x) x26_Value_Elem x26_Value_Key x26_Value_HasKey))]) (b := false) (by rfl) (by first | rfl | (subst_vars; rfl))) ?_
              conv => arg 1; cbv
              refine sat_cat hΩ (ro_Child hE) l23 [(Child.mk x26_Key x26_Kind x26_Name (Value.mk x26_Value_Kind x26_Value_N x26_Value_S (Sl.mk x26_Value_L_l x26_Value_L_x) (Sl.mk x26_Value_F_l x26_Value_F_x) x26_Value_Elem x26_Value_Key x26_Value_HasKey))] (by first | rfl | (subst_vars; rfl)) (by first | rfl | (subst_vars; rfl)) fun l28 hl29 n30 hn31 => ?_
              conv => arg 1; cbv
              replace h := bif_some h
              obtain ⟨hb32, h⟩ := h
              refine sat_true (by first | exact hb32 | (subst_vars; first | exact hb32 | rfl)) ?_
              conv => arg 1; cbv
              obtain rfl := Option.some.inj h
              subst_vars
              first | exact sat_pure ⟨rfl, rfl, rfl⟩ | (refine sat_pure ⟨rfl, ?_, ?_⟩ <;> first | rfl | (dsimp only; simp only [ln_set]; rfl))
            · refine sat_brf (by first | exact hb25 | (subst_vars; first | exact hb25 | rfl)) ?_
              conv => arg 1; cbv
              obtain rfl := Option.some.inj h
              subst_vars
              first | exact sat_pure (.inl ⟨⟨_, rfl⟩, rfl⟩) | (refine sat_pure (.inl ⟨⟨_, rfl⟩, ?_⟩); dsimp only; simp only [ln_set]; rfl)
          · clear hl33
            rcases q with ⟨o34, o35⟩
            dsimp only at h
            obtain ⟨ln_o34, hln_o34⟩ : ∃ n, ln o34 = n := ⟨_, rfl⟩
            simp only [hln_o34]
            conv => arg 1; cbv
            refine sat_true (len_ok hΩ (ro_Child hE) o34 (by first | rfl | (subst_vars; rfl)) (by first | rfl | (subst_vars; rfl))) ?_
            conv => arg 1; cbv
            obtain ⟨⟨r36_l, r36_x⟩, hx37, hz⟩ := Option.bind_eq_some_iff.1 h
            clear h
            have h := hz
            clear hz
            try dsimp only at h
            refine sat_call (ok26 hΩ hE hx37 (by subst_vars; rfl) _) ?_
            conv => arg 1; cbv
            refine sat_len hΩ (ro_i_i64 hE) r17_l (by first | rfl | (subst_vars; rfl)) fun n38 hn39 => ?_
            conv => arg 1; cbv
            refine sat_len hΩ (ro_Child hE) a0_l (by first | rfl | (subst_vars; rfl)) fun n40 hn41 => ?_
            conv => arg 1; cbv
            replace h := bif_cases h
            rcases h with ⟨hb42, h⟩ | ⟨hb42, h⟩
            · refine sat_brt (by first | exact hb42 | (subst_vars; first | exact hb42 | rfl)) ?_
              conv => arg 1; cbv
              refine sat_len hΩ (ro_i_i64 hE) r36_l (by first | rfl | (subst_vars; rfl)) fun n43 hn44 => ?_
              conv => arg 1; cbv
              refine sat_len hΩ (ro_i_i64 hE) r15_l (by first | rfl | (subst_vars; rfl)) fun n45 hn46 => ?_
              conv => arg 1; cbv
              refine sat_in hΩ ?_
              conv => arg 1; cbv
              replace h := bif_cases h
              rcases h with ⟨hb47, h⟩ | ⟨hb47, h⟩
              · refine sat_brt (by first | exact hb47 | (subst_vars; first | exact hb47 | rfl)) ?_
                conv => arg 1; cbv
                obtain rfl := Option.some.inj h
                subst_vars
                exact sat_pure rfl
              · refine sat_brf (by first | exact hb47 | (subst_vars; first | exact hb47 | rfl)) ?_
                conv => arg 1; cbv
                obtain ⟨q, hl73, hz⟩ := Option.bind_eq_some_iff.1 h
                clear h
                have h := hz
                clear hz
                refine sat_loop hΩ (fun (a : Int × Int) => (match a with | (i48, i49) => ([(0, PV.d (.sl (E.L_Child a0_l) (E.X_Child a0_x))), (1, PV.d (.sl (E.L_Child a1_l) (E.X_Child a1_x))), (4, PV.d (.bool false)), (5, PV.d (.sl (E.L_i_i64 r15_l) (E.X_i_i64 r15_x))), (6, PV.d (.sl (E.L_i_i64 r17_l) (E.X_i_i64 r17_x))), (7, PV.row 0 0 (ln o34)), (8, PV.d (.int .i64 o35)), (9, PV.d (.sl (E.L_i_i64 r36_l) (E.X_i_i64 r36_x))), (10, PV.d (.int .i64 i48)), (11, PV.d (.int .i64 i49))], ([X.Obj.row 29 11 (E.L_Child o34) false none] : List X.Obj) :: st))) (fun (q : (Int × Int) ⊕ (Int × Int)) => (match q with | .inl (o74, o75) => (.exit 2, [(0, PV.d (.sl (E.L_Child a0_l) (E.X_Child a0_x))), (1, PV.d (.sl (E.L_Child a1_l) (E.X_Child a1_x))), (4, PV.d (.bool false)), (5, PV.d (.sl (E.L_i_i64 r15_l) (E.X_i_i64 r15_x))), (6, PV.d (.sl (E.L_i_i64 r17_l) (E.X_i_i64 r17_x))), (7, PV.row 0 0 (ln o34)), (8, PV.d (.int .i64 o35)), (9, PV.d (.sl (E.L_i_i64 r36_l) (E.X_i_i64 r36_x))), (10, PV.d (.int .i64 o74)), (11, PV.d (.int .i64 o75))], ([X.Obj.row 29 11 (E.L_Child o34) false none] : List X.Obj) :: st) | .inr (o87, o88) => (.ret, [(0, PV.d (.sl (E.L_Child a0_l) (E.X_Child a0_x))), (1, PV.d (.sl (E.L_Child a1_l) (E.X_Child a1_x))), (4, PV.d (.bool false)), (5, PV.d (.sl (E.L_i_i64 r15_l) (E.X_i_i64 r15_x))), (6, PV.d (.sl (E.L_i_i64 r17_l) (E.X_i_i64 r17_x))), (7, PV.row 0 0 (ln o34)), (8, PV.d (.int .i64 o35)), (9, PV.d (.sl (E.L_i_i64 r36_l) (E.X_i_i64 r36_x))), (10, PV.d (.int .i64 o87)), (11, PV.d (.int .i64 o88))], ([X.Obj.row 29 11 (E.L_Child o34) false none] : List X.Obj) :: st))) (0, 0) hl73 (by first | rfl | (subst_vars; rfl) | (subst_vars; simp only [ln_set])) ?_ ?_
                · clear h hl73
                  rintro ⟨i48, i49⟩ q h
                  unfold P6_s1 at h
                  dsimp only at h
                  obtain ⟨ln_o34, hln_o34⟩ : ∃ n, ln o34 = n := ⟨_, rfl⟩
                  simp only [hln_o34]
                  conv => arg 1; cbv
                  refine sat_len hΩ (ro_i_i64 hE) r15_l (by first | rfl | (subst_vars; rfl)) fun n50 hn51 => ?_
                  conv => arg 1; cbv
                  refine sat_in hΩ ?_
                  conv => arg 1; cbv
                  replace h := bif_cases h
                  rcases h with ⟨hb52, h⟩ | ⟨hb52, h⟩
                  · refine sat_brt (by first | exact hb52 | (subst_vars; first | exact hb52 | rfl)) ?_
                    conv => arg 1; cbv
                    refine sat_true (fits_l hΩ (ro_i_i64 hE) r15_l (by first | rfl | (subst_vars; rfl))) ?_
                    conv => arg 1; cbv
                    obtain ⟨x53, hx54, hz⟩ := Option.bind_eq_some_iff.1 h
                    clear h
                    have h := hz
                    clear hz
                    refine sat_bind (nth_ok hΩ (ro_i_i64 hE) hx54 (by first | rfl | (subst_vars; rfl)) (by first | rfl | (subst_vars; rfl))) ?_
                    conv => arg 1; cbv
                    refine sat_true (fits_l hΩ (ro_i_i64 hE) r36_l (by first | rfl | (subst_vars; rfl))) ?_
                    conv => arg 1; cbv
                    obtain ⟨x55, hx56, hz⟩ := Option.bind_eq_some_iff.1 h
                    clear h
                    have h := hz
                    clear hz
                    refine sat_bind (nth_ok hΩ (ro_i_i64 hE) hx56 (by first | rfl | (subst_vars; rfl)) (by first | rfl | (subst_vars; rfl))) ?_
                    conv => arg 1; cbv
                    refine sat_in hΩ ?_
                    conv => arg 1; cbv
                    replace h := bif_cases h
                    rcases h with ⟨hb57, h⟩ | ⟨hb57, h⟩
                    · refine sat_brt (by first | exact hb57 | (subst_vars; first | exact hb57 | rfl)) ?_
                      conv => arg 1; cbv
                      obtain rfl := Option.some.inj h
                      subst_vars
                      first | exact sat_pure (.inr ⟨rfl, rfl⟩) | (refine sat_pure (.inr ⟨rfl, ?_⟩); dsimp only; simp only [ln_set]; rfl)
                    · refine sat_brf (by first | exact hb57 | (subst_vars; first | exact hb57 | rfl)) ?_
                      conv => arg 1; cbv
                      refine sat_true (fits_l hΩ (ro_i_i64 hE) r15_l (by first | rfl | (subst_vars; rfl))) ?_
                      conv => arg 1; cbv
                      obtain ⟨x58, hx59, hz⟩ := Option.bind_eq_some_iff.1 h
                      clear h
                      have h := hz
                      clear hz
                      refine sat_bind (nth_ok hΩ (ro_i_i64 hE) hx59 (by first | rfl | (subst_vars; rfl)) (by first | rfl | (subst_vars; rfl))) ?_
                      conv => arg 1; cbv
                      refine sat_in hΩ ?_
                      conv => arg 1; cbv
                      replace h := bif_cases h
                      rcases h with ⟨hb60, h⟩ | ⟨hb60, h⟩
                      · refine sat_brt (by first | exact hb60 | (subst_vars; first | exact hb60 | rfl)) ?_
                        conv => arg 1; cbv
                        refine sat_true (fits_l hΩ (ro_i_i64 hE) r15_l (by first | rfl | (subst_vars; rfl))) ?_
                        conv => arg 1; cbv
                        obtain ⟨x61, hx62, hz⟩ := Option.bind_eq_some_iff.1 h
                        clear h
                        have h := hz
                        clear hz
                        refine sat_bind (nth_ok hΩ (ro_i_i64 hE) hx62 (by first | rfl | (subst_vars; rfl)) (by first | rfl | (subst_vars; rfl))) ?_
                        conv => arg 1; cbv
                        refine sat_true (fits_l hΩ (ro_i_i64 hE) r17_l (by first | rfl | (subst_vars; rfl))) ?_
                        conv => arg 1; cbv
                        obtain ⟨x63, hx64, hz⟩ := Option.bind_eq_some_iff.1 h
                        clear h
                        have h := hz
                        clear hz
                        refine sat_bind (nth_ok hΩ (ro_i_i64 hE) hx64 (by first | rfl | (subst_vars; rfl)) (by first | rfl | (subst_vars; rfl))) ?_
                        conv => arg 1; cbv
                        replace h := bif_cases h
                        rcases h with ⟨hb65, h⟩ | ⟨hb65, h⟩
                        · refine sat_brt (by first | exact hb65 | (subst_vars; first | exact hb65 | rfl)) ?_
                          conv => arg 1; cbv
                          refine sat_tick hΩ ?_
                          conv => arg 1; cbv
                          refine sat_true (fits_l hΩ (ro_i_i64 hE) r36_l (by first | rfl | (subst_vars; rfl))) ?_
                          conv => arg 1; cbv
                          obtain ⟨x66, hx67, hz⟩ := Option.bind_eq_some_iff.1 h
                          clear h
                          have h := hz
                          clear hz
                          refine sat_bind (nth_ok hΩ (ro_i_i64 hE) hx67 (by first | rfl | (subst_vars; rfl)) (by first | rfl | (subst_vars; rfl))) ?_
                          conv => arg 1; cbv
                          refine sat_len hΩ (ro_Child hE) a0_l (by first | rfl | (subst_vars; rfl)) fun n68 hn69 => ?_
                          conv => arg 1; cbv
                          refine sat_true (fits_l hΩ (ro_i_i64 hE) r15_l (by first | rfl | (subst_vars; rfl))) ?_
                          conv => arg 1; cbv
                          obtain ⟨x70, hx71, hz⟩ := Option.bind_eq_some_iff.1 h
                          clear h
                          have h := hz
                          clear hz
                          refine sat_bind (nth_ok hΩ (ro_i_i64 hE) hx71 (by first | rfl | (subst_vars; rfl)) (by first | rfl | (subst_vars; rfl))) ?_
                          conv => arg 1; cbv
                          refine sat_in hΩ ?_
                          conv => arg 1; cbv
                          replace h := bif_cases h
                          rcases h with ⟨hb72, h⟩ | ⟨hb72, h⟩
                          · refine sat_brt (by first | exact hb72 | (subst_vars; first | exact hb72 | rfl)) ?_
                            conv => arg 1; cbv
                            obtain rfl := Option.some.inj h
                            subst_vars
                            first | exact sat_pure (.inr ⟨rfl, rfl⟩) | (refine sat_pure (.inr ⟨rfl, ?_⟩); dsimp only; simp only [ln_set]; rfl)
                          · refine sat_brf (by first | exact hb72 | (subst_vars; first | exact hb72 | rfl)) ?_
                            conv => arg 1; cbv
                            obtain rfl := Option.some.inj h
                            subst_vars
                            first | exact sat_pure ⟨rfl, rfl, rfl⟩ | (refine sat_pure ⟨rfl, ?_, ?_⟩ <;> first | rfl | (dsimp only; simp only [ln_set]; rfl))
                        · refine sat_brf (by first | exact hb65 | (subst_vars; first | exact hb65 | rfl)) ?_
                          conv => arg 1; cbv
                          refine sat_tick hΩ ?_
                          conv => arg 1; cbv
                          refine sat_in hΩ ?_
                          conv => arg 1; cbv
                          obtain rfl := Option.some.inj h
                          subst_vars
                          first | exact sat_pure (.inr ⟨rfl, rfl⟩) | (refine sat_pure (.inr ⟨rfl, ?_⟩); dsimp only; simp only [ln_set]; rfl)
                      · refine sat_brf (by first | exact hb60 | (subst_vars; first | exact hb60 | rfl)) ?_
                        conv => arg 1; cbv
                        obtain rfl := Option.some.inj h
                        subst_vars
                        first | exact sat_pure ⟨rfl, rfl, rfl⟩ | (refine sat_pure ⟨rfl, ?_, ?_⟩ <;> first | rfl | (dsimp only; simp only [ln_set]; rfl))
                  · refine sat_brf (by first | exact hb52 | (subst_vars; first | exact hb52 | rfl)) ?_
                    conv => arg 1; cbv
                    obtain rfl := Option.some.inj h
                    subst_vars
                    first | exact sat_pure (.inl ⟨⟨_, rfl⟩, rfl⟩) | (refine sat_pure (.inl ⟨⟨_, rfl⟩, ?_⟩); dsimp only; simp only [ln_set]; rfl)
                · clear hl73
                  rcases q with ⟨o74, o75⟩ | ⟨o87, o88⟩
                  · dsimp only at h
                    obtain ⟨ln_o34, hln_o34⟩ : ∃ n, ln o34 = n := ⟨_, rfl⟩
                    simp only [hln_o34]
                    conv => arg 1; cbv
                    obtain ⟨q, hl84, hz⟩ := Option.bind_eq_some_iff.1 h
                    clear h
                    have h := hz
                    clear hz
                    refine sat_loop hΩ (fun (a : Int × Int) => (match a with | (i76, i77) => ([(0, PV.d (.sl (E.L_Child a0_l) (E.X_Child a0_x))), (1, PV.d (.sl (E.L_Child a1_l) (E.X_Child a1_x))), (4, PV.d (.bool false)), (5, PV.d (.sl (E.L_i_i64 r15_l) (E.X_i_i64 r15_x))), (6, PV.d (.sl (E.L_i_i64 r17_l) (E.X_i_i64 r17_x))), (7, PV.row 0 0 (ln o34)), (8, PV.d (.int .i64 o35)), (9, PV.d (.sl (E.L_i_i64 r36_l) (E.X_i_i64 r36_x))), (10, PV.d (.int .i64 i76)), (11, PV.d (.int .i64 o75)), (12, PV.d (.int .i64 i77))], ([X.Obj.row 29 11 (E.L_Child o34) false none] : List X.Obj) :: st))) (fun (q : (Int × Int)) => (match q with | (o85, o86) => (.exit 4, [(0, PV.d (.sl (E.L_Child a0_l) (E.X_Child a0_x))), (1, PV.d (.sl (E.L_Child a1_l) (E.X_Child a1_x))), (4, PV.d (.bool false)), (5, PV.d (.sl (E.L_i_i64 r15_l) (E.X_i_i64 r15_x))), (6, PV.d (.sl (E.L_i_i64 r17_l) (E.X_i_i64 r17_x))), (7, PV.row 0 0 (ln o34)), (8, PV.d (.int .i64 o35)), (9, PV.d (.sl (E.L_i_i64 r36_l) (E.X_i_i64 r36_x))), (10, PV.d (.int .i64 o85)), (11, PV.d (.int .i64 o75)), (12, PV.d (.int .i64 o86))], ([X.Obj.row 29 11 (E.L_Child o34) false none] : List X.Obj) :: st))) (o74, 0) hl84 (by first | rfl | (subst_vars; rfl) | (subst_vars; simp only [ln_set])) ?_ ?_
                    · clear h hl84
                      rintro ⟨i76, i77⟩ q h
                      unfold P6_s2 at h
                      dsimp only at h
                      obtain ⟨ln_o34, hln_o34⟩ : ∃ n, ln o34 = n := ⟨_, rfl⟩
                      simp only [hln_o34]
                      conv => arg 1; cbv
                      refine sat_len hΩ (ro_i_i64 hE) r17_l (by first | rfl | (subst_vars; rfl)) fun n78 hn79 => ?_
                      conv => arg 1; cbv
                      refine sat_in hΩ ?_
                      conv => arg 1; cbv
                      replace h := bif_cases h
                      rcases h with ⟨hb80, h⟩ | ⟨hb80, h⟩
                      · refine sat_brt (by first | exact hb80 | (subst_vars; first | exact hb80 | rfl)) ?_
                        conv => arg 1; cbv
                        refine sat_true (fits_l hΩ (ro_i_i64 hE) r17_l (by first | rfl | (subst_vars; rfl))) ?_
                        conv => arg 1; cbv
                        obtain ⟨x81, hx82, hz⟩ := Option.bind_eq_some_iff.1 h
                        clear h
                        have h := hz
                        clear hz
                        refine sat_bind (nth_ok hΩ (ro_i_i64 hE) hx82 (by first | rfl | (subst_vars; rfl)) (by first | rfl | (subst_vars; rfl))) ?_
                        conv => arg 1; cbv
                        refine sat_in hΩ ?_
                        conv => arg 1; cbv
                        replace h := bif_cases h
                        rcases h with ⟨hb83, h⟩ | ⟨hb83, h⟩
                        · refine sat_brt (by first | exact hb83 | (subst_vars; first | exact hb83 | rfl)) ?_
                          conv => arg 1; cbv
                          obtain rfl := Option.some.inj h
                          subst_vars
                          first | exact sat_pure ⟨rfl, rfl, rfl⟩ | (refine sat_pure ⟨rfl, ?_, ?_⟩ <;> first | rfl | (dsimp only; simp only [ln_set]; rfl))
                        · refine sat_brf (by first | exact hb83 | (subst_vars; first | exact hb83 | rfl)) ?_
                          conv => arg 1; cbv
                          obtain rfl := Option.some.inj h
                          subst_vars
                          first | exact sat_pure ⟨rfl, rfl, rfl⟩ | (refine sat_pure ⟨rfl, ?_, ?_⟩ <;> first | rfl | (dsimp only; simp only [ln_set]; rfl))
                      · refine sat_brf (by first | exact hb80 | (subst_vars; first | exact hb80 | rfl)) ?_
                        conv => arg 1; cbv
                        obtain rfl := Option.some.inj h
                        subst_vars
                        first | exact sat_pure (.inl ⟨⟨_, rfl⟩, rfl⟩) | (refine sat_pure (.inl ⟨⟨_, rfl⟩, ?_⟩); dsimp only; simp only [ln_set]; rfl)
                    · clear hl84
                      rcases q with ⟨o85, o86⟩
                      dsimp only at h
                      obtain ⟨ln_o34, hln_o34⟩ : ∃ n, ln o34 = n := ⟨_, rfl⟩
                      simp only [hln_o34]
                      conv => arg 1; cbv
                      obtain rfl := Option.some.inj h
                      subst_vars
                      exact sat_pure rfl
                  · dsimp only at h
                    obtain ⟨ln_o34, hln_o34⟩ : ∃ n, ln o34 = n := ⟨_, rfl⟩
                    simp only [hln_o34]
                    conv => arg 1; cbv
                    obtain rfl := Option.some.inj h
                    subst_vars
                    exact sat_pure rfl
            · refine sat_brf (by first | exact hb42 | (subst_vars; first | exact hb42 | rfl)) ?_
              conv => arg 1; cbv
              refine sat_in hΩ ?_
              conv => arg 1; cbv
              obtain rfl := Option.some.inj h
              subst_vars
              exact sat_pure rfl
      · refine sat_brf (by first | exact hb9 | (subst_vars; first | exact hb9 | rfl)) ?_
        conv => arg 1; cbv
        refine sat_in hΩ ?_
        conv => arg 1; cbv
        obtain ⟨r89, hx90, hz⟩ := Option.bind_eq_some_iff.1 h
        clear h
        have h := hz
        clear hz
        refine sat_call (ok24 hΩ hE hx90 (by subst_vars; rfl) _) ?_
        conv => arg 1; cbv
        obtain rfl := Option.some.inj h
        subst_vars
        exact sat_pure rfl
    · refine sat_brf (by first | exact hb6 | (subst_vars; first | exact hb6 | rfl)) ?_
      conv => arg 1; cbv
      refine sat_tick hΩ ?_
      conv => arg 1; cbv
      refine sat_in hΩ ?_
      conv => arg 1; cbv
      obtain ⟨r91, hx92, hz⟩ := Option.bind_eq_some_iff.1 h
      clear h
      have h := hz
      clear hz
      refine sat_call (ok24 hΩ hE hx92 (by subst_vars; rfl) _) ?_
      conv => arg 1; cbv
      obtain rfl := Option.some.inj h
      subst_vars
      exact sat_pure rfl
  · refine sat_brf (by first | exact hb3 | (subst_vars; first | exact hb3 | rfl)) ?_
    conv => arg 1; cbv
    refine sat_tick hΩ ?_
    conv => arg 1; cbv
    refine sat_in hΩ ?_
    conv => arg 1; cbv
    obtain ⟨r93, hx94, hz⟩ := Option.bind_eq_some_iff.1 h
    clear h
    have h := hz
    clear hz
    refine sat_call (ok24 hΩ hE hx94 (by subst_vars; rfl) _) ?_
    conv => arg 1; cbv
    obtain rfl := Option.some.inj h
    subst_vars
    exact sat_pure rfl
end Go.Proofs.Ytamllgdaepjcfaa
