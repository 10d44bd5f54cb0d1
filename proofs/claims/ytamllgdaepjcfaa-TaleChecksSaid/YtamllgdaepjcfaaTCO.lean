/- The interpreter computes just these functions: printed by a small program. -/
import Derived.Test.YtamllgdaepjcfaaTCD
namespace Go.Proofs.Ytamllgdaepjcfaa
open Go Go.X
set_option linter.unusedVariables false
set_option linter.unusedSimpArgs false
set_option maxRecDepth 100000
set_option maxHeartbeats 4000000 in
theorem ok58x1 {Ω : Om} {E : Enc} (hΩ : real (call S) = Ω) (hE : theEnc = E) {fu : Nat} {a1 : Note} {b0 c0 : Bool × Bool × Bool} {b1 c1 : List (Talerun × Bool)} {S : ((Bool × Bool × Bool) × (List (Talerun × Bool))) → St} {lz0 iz0 : Nat} {iz1 : Nat} (e0 : b0 = c0) (e1 : b1 = c1) (hg0 : ∀ s, X.look (S s) lz0 iz0 = some (X.Obj.box 88 (bx_88 E iz1 s.1))) (hu0 : ∀ s x, X.setO (S s) lz0 iz0 (X.Obj.box 88 (bx_88 E iz1 x)) = S (x, s.2)) (hg1 : ∀ s, X.look (S s) lz0 iz1 = some (X.Obj.map (.agg [.str, .bool]) true (E.M_Talerun_bool s.2))) (hu1 : ∀ s x, X.setO (S s) lz0 iz1 (X.Obj.map (.agg [.str, .bool]) true (E.M_Talerun_bool x)) = S (s.1, x)) {r : Bool × (Bool × Bool × Bool) × (List (Talerun × Bool))} (h : P58x1 fu a1 b0 b1 = some r) {args : List PV} (ha : [PV.ptr lz0 iz0 0, pv_Note E a1] = args) {st : St} (hst : S (c0, c1) = st) :
    Sat (Ω.cf 58 args st) (fun q => q = (PV.d (.bool r.1), S (r.2.1, r.2.2))) := by
  subst ha
  subst hst
  subst e0
  subst e1
  rcases a1 with ⟨a1_Kind, a1_Inst, a1_Name, a1_Late, a1_Text⟩
  rcases b0 with ⟨b0_0, b0_1, b0_2⟩
  rw [cf_body hΩ (f := 58) (fn := Try.f58) (x := c58) rfl rfl c58_ok rfl rfl]
  unfold P58x1 at h
  try dsimp only at h
  conv => arg 1; cbv
  refine sat_in hΩ ?_
  conv => arg 1; cbv
  replace h := bif_cases h
  rcases h with ⟨hb1, h⟩ | ⟨hb1, h⟩
  · refine sat_brt (by first | exact hb1 | ((try clear h); subst_vars; first | exact hb1 | rfl)) ?_
    conv => arg 1; cbv
    refine sat_putfar hΩ (hg0 _) (hu0 _ (true, b0_1, b0_2)) rfl rfl (by first | rfl | ((try clear h); subst_vars; rfl)) ?_
    conv => arg 1; cbv
    refine sat_far hΩ (hg0 _) (by exact (show down.downs (lz0+1) [PV.d (.bool b0_2), PV.map 0 iz1] = [PV.d (.bool b0_2), PV.map (lz0+1) iz1] by simp only [down.downs, down, Nat.zero_add])) ?_
    conv => arg 1; cbv
    obtain rfl := Option.some.inj h
    subst_vars
    exact sat_pure rfl
  · refine sat_brf (by first | exact hb1 | ((try clear h); subst_vars; first | exact hb1 | rfl)) ?_
    conv => arg 1; cbv
    refine sat_in hΩ ?_
    conv => arg 1; cbv
    replace h := bif_cases h
    rcases h with ⟨hb2, h⟩ | ⟨hb2, h⟩
    · refine sat_brt (by first | exact hb2 | ((try clear h); subst_vars; first | exact hb2 | rfl)) ?_
      conv => arg 1; cbv
      refine sat_in hΩ ?_
      conv => arg 1; cbv
      refine sat_far hΩ (hg0 _) (by exact (show down.downs (lz0+1) [PV.d (.bool b0_0), PV.d (.bool b0_1), PV.d (.bool b0_2), PV.map 0 iz1] = [PV.d (.bool b0_0), PV.d (.bool b0_1), PV.d (.bool b0_2), PV.map (lz0+1) iz1] by simp only [down.downs, down, Nat.zero_add])) ?_
      conv => arg 1; cbv
      replace h := bif_cases h
      rcases h with ⟨hb3, h⟩ | ⟨hb3, h⟩
      · refine sat_brt (by first | exact hb3 | ((try clear h); subst_vars; first | exact hb3 | rfl)) ?_
        conv => arg 1; cbv
        refine sat_far hΩ (hg0 _) (by exact (show down.downs (lz0+1) [PV.d (.bool b0_1), PV.d (.bool b0_2), PV.map 0 iz1] = [PV.d (.bool b0_1), PV.d (.bool b0_2), PV.map (lz0+1) iz1] by simp only [down.downs, down, Nat.zero_add])) ?_
        conv => arg 1; cbv
        refine sat_tick hΩ ?_
        conv => arg 1; cbv
        replace h := bif_cases h
        rcases h with ⟨hb4, h⟩ | ⟨hb4, h⟩
        · refine sat_brt (by first | exact hb4 | ((try clear h); subst_vars; first | exact hb4 | rfl)) ?_
          conv => arg 1; cbv
          refine sat_far hΩ (hg0 _) (by exact (show down.downs (lz0+1) [PV.d (.bool b0_2), PV.map 0 iz1] = [PV.d (.bool b0_2), PV.map (lz0+1) iz1] by simp only [down.downs, down, Nat.zero_add])) ?_
          conv => arg 1; cbv
          refine sat_putfar hΩ (hg0 _) (hu0 _ (b0_0, true, b0_2)) rfl rfl (by first | rfl | ((try clear h); subst_vars; rfl)) ?_
          conv => arg 1; cbv
          obtain rfl := Option.some.inj h
          subst_vars
          exact sat_pure rfl
        · refine sat_brf (by first | exact hb4 | ((try clear h); subst_vars; first | exact hb4 | rfl)) ?_
          conv => arg 1; cbv
          refine sat_putfar hΩ (hg0 _) (hu0 _ (b0_0, true, b0_2)) rfl rfl (by first | rfl | ((try clear h); subst_vars; rfl)) ?_
          conv => arg 1; cbv
          obtain rfl := Option.some.inj h
          subst_vars
          exact sat_pure rfl
      · refine sat_brf (by first | exact hb3 | ((try clear h); subst_vars; first | exact hb3 | rfl)) ?_
        conv => arg 1; cbv
        refine sat_tick hΩ ?_
        conv => arg 1; cbv
        refine sat_putfar hΩ (hg0 _) (hu0 _ (b0_0, true, b0_2)) rfl rfl (by first | rfl | ((try clear h); subst_vars; rfl)) ?_
        conv => arg 1; cbv
        obtain rfl := Option.some.inj h
        subst_vars
        exact sat_pure rfl
    · refine sat_brf (by first | exact hb2 | ((try clear h); subst_vars; first | exact hb2 | rfl)) ?_
      conv => arg 1; cbv
      refine sat_in hΩ ?_
      conv => arg 1; cbv
      replace h := bif_cases h
      rcases h with ⟨hb5, h⟩ | ⟨hb5, h⟩
      · refine sat_brt (by first | exact hb5 | ((try clear h); subst_vars; first | exact hb5 | rfl)) ?_
        conv => arg 1; cbv
        refine sat_in hΩ ?_
        conv => arg 1; cbv
        refine sat_far hΩ (hg0 _) (by exact (show down.downs (lz0+1) [PV.map 0 iz1] = [PV.map (lz0+1) iz1] by simp only [down.downs, down, Nat.zero_add])) ?_
        conv => arg 1; cbv
        refine sat_mapfar hΩ (hg1 _) ?_
        conv => arg 1; cbv
        refine sat_mlen hΩ (mo_Talerun_bool hE) b1 (by first | rfl | ((try clear h); subst_vars; rfl)) fun n6 hn7 => ?_
        conv => arg 1; cbv
        replace h := bif_cases h
        rcases h with ⟨hb8, h⟩ | ⟨hb8, h⟩
        · refine sat_brt (by first | exact hb8 | ((try clear h); subst_vars; first | exact hb8 | rfl)) ?_
          conv => arg 1; cbv
          refine sat_far hΩ (hg0 _) (by exact (show down.downs (lz0+1) [PV.d (.bool b0_2), PV.map 0 iz1] = [PV.d (.bool b0_2), PV.map (lz0+1) iz1] by simp only [down.downs, down, Nat.zero_add])) ?_
          conv => arg 1; cbv
          refine sat_in hΩ ?_
          conv => arg 1; cbv
          replace h := bif_cases h
          rcases h with ⟨hb9, h⟩ | ⟨hb9, h⟩
          · refine sat_brt (by first | exact hb9 | ((try clear h); subst_vars; first | exact hb9 | rfl)) ?_
            conv => arg 1; cbv
            obtain rfl := Option.some.inj h
            subst_vars
            exact sat_pure rfl
          · refine sat_brf (by first | exact hb9 | ((try clear h); subst_vars; first | exact hb9 | rfl)) ?_
            conv => arg 1; cbv
            refine sat_putfar hΩ (hg0 _) (hu0 _ (b0_0, b0_1, true)) rfl rfl (by first | rfl | ((try clear h); subst_vars; rfl)) ?_
            conv => arg 1; cbv
            refine sat_far hΩ (hg0 _) (by exact (show down.downs (lz0+1) [PV.d (.bool b0_1), PV.d (.bool true), PV.map 0 iz1] = [PV.d (.bool b0_1), PV.d (.bool true), PV.map (lz0+1) iz1] by simp only [down.downs, down, Nat.zero_add])) ?_
            conv => arg 1; cbv
            obtain rfl := Option.some.inj h
            subst_vars
            exact sat_pure rfl
        · refine sat_brf (by first | exact hb8 | ((try clear h); subst_vars; first | exact hb8 | rfl)) ?_
          conv => arg 1; cbv
          refine sat_in hΩ ?_
          conv => arg 1; cbv
          obtain rfl := Option.some.inj h
          subst_vars
          exact sat_pure rfl
      · refine sat_brf (by first | exact hb5 | ((try clear h); subst_vars; first | exact hb5 | rfl)) ?_
        conv => arg 1; cbv
        refine sat_in hΩ ?_
        conv => arg 1; cbv
        replace h := bif_cases h
        rcases h with ⟨hb10, h⟩ | ⟨hb10, h⟩
        · refine sat_brt (by first | exact hb10 | ((try clear h); subst_vars; first | exact hb10 | rfl)) ?_
          conv => arg 1; cbv
          refine sat_in hΩ ?_
          conv => arg 1; cbv
          refine sat_far hΩ (hg0 _) (by exact (show down.downs (lz0+1) [PV.map 0 iz1] = [PV.map (lz0+1) iz1] by simp only [down.downs, down, Nat.zero_add])) ?_
          conv => arg 1; cbv
          refine sat_mapfar hΩ (hg1 _) ?_
          conv => arg 1; cbv
          rcases hq12 : mget b1 (Talerun.mk a1_Name a1_Late) with _ | x11
          · rw [hq12] at h
            dsimp only at h
            refine sat_find_none hΩ (mo_Talerun_bool hE) hq12 (by first | rfl | ((try clear h); subst_vars; rfl)) (by first | rfl | ((try clear h); subst_vars; rfl)) ?_
            conv => arg 1; cbv
            refine sat_in hΩ ?_
            conv => arg 1; cbv
            refine sat_far hΩ (hg0 _) (by exact (show down.downs (lz0+1) [PV.map 0 iz1] = [PV.map (lz0+1) iz1] by simp only [down.downs, down, Nat.zero_add])) ?_
            conv => arg 1; cbv
            refine sat_mapfar hΩ (hg1 _) ?_
            conv => arg 1; cbv
            refine sat_put hΩ (mo_Talerun_bool hE) b1 (Talerun.mk a1_Name a1_Late) true (by first | rfl | ((try clear h); subst_vars; rfl)) (by first | rfl | ((try clear h); subst_vars; rfl)) (by first | rfl | ((try clear h); subst_vars; rfl)) fun m13 hm14 => ?_
            conv => arg 1; cbv
            refine sat_setfar hΩ (hu1 _ _) ?_
            conv => arg 1; cbv
            refine sat_in hΩ ?_
            conv => arg 1; cbv
            refine sat_far hΩ (hg0 _) (by exact (show down.downs (lz0+1) [PV.d (.bool b0_1), PV.d (.bool b0_2), PV.map 0 iz1] = [PV.d (.bool b0_1), PV.d (.bool b0_2), PV.map (lz0+1) iz1] by simp only [down.downs, down, Nat.zero_add])) ?_
            conv => arg 1; cbv
            replace h := bif_cases h
            rcases h with ⟨hb15, h⟩ | ⟨hb15, h⟩
            · refine sat_brt (by first | exact hb15 | ((try clear h); subst_vars; first | exact hb15 | rfl)) ?_
              conv => arg 1; cbv
              refine sat_far hΩ (hg0 _) (by exact (show down.downs (lz0+1) [PV.d (.bool b0_2), PV.map 0 iz1] = [PV.d (.bool b0_2), PV.map (lz0+1) iz1] by simp only [down.downs, down, Nat.zero_add])) ?_
              conv => arg 1; cbv
              obtain rfl := Option.some.inj h
              subst_vars
              exact sat_pure rfl
            · refine sat_brf (by first | exact hb15 | ((try clear h); subst_vars; first | exact hb15 | rfl)) ?_
              conv => arg 1; cbv
              obtain rfl := Option.some.inj h
              subst_vars
              exact sat_pure rfl
          · rw [hq12] at h
            dsimp only at h
            refine sat_find_some hΩ (mo_Talerun_bool hE) hq12 (by first | rfl | ((try clear h); subst_vars; rfl)) (by first | rfl | ((try clear h); subst_vars; rfl)) ?_
            conv => arg 1; cbv
            refine sat_in hΩ ?_
            conv => arg 1; cbv
            replace h := bif_cases h
            rcases h with ⟨hb16, h⟩ | ⟨hb16, h⟩
            · refine sat_brt (by first | exact hb16 | ((try clear h); subst_vars; first | exact hb16 | rfl)) ?_
              conv => arg 1; cbv
              obtain rfl := Option.some.inj h
              subst_vars
              exact sat_pure rfl
            · refine sat_brf (by first | exact hb16 | ((try clear h); subst_vars; first | exact hb16 | rfl)) ?_
              conv => arg 1; cbv
              refine sat_far hΩ (hg0 _) (by exact (show down.downs (lz0+1) [PV.map 0 iz1] = [PV.map (lz0+1) iz1] by simp only [down.downs, down, Nat.zero_add])) ?_
              conv => arg 1; cbv
              refine sat_mapfar hΩ (hg1 _) ?_
              conv => arg 1; cbv
              refine sat_put hΩ (mo_Talerun_bool hE) b1 (Talerun.mk a1_Name a1_Late) true (by first | rfl | ((try clear h); subst_vars; rfl)) (by first | rfl | ((try clear h); subst_vars; rfl)) (by first | rfl | ((try clear h); subst_vars; rfl)) fun m17 hm18 => ?_
              conv => arg 1; cbv
              refine sat_setfar hΩ (hu1 _ _) ?_
              conv => arg 1; cbv
              refine sat_in hΩ ?_
              conv => arg 1; cbv
              refine sat_far hΩ (hg0 _) (by exact (show down.downs (lz0+1) [PV.d (.bool b0_1), PV.d (.bool b0_2), PV.map 0 iz1] = [PV.d (.bool b0_1), PV.d (.bool b0_2), PV.map (lz0+1) iz1] by simp only [down.downs, down, Nat.zero_add])) ?_
              conv => arg 1; cbv
              replace h := bif_cases h
              rcases h with ⟨hb19, h⟩ | ⟨hb19, h⟩
              · refine sat_brt (by first | exact hb19 | ((try clear h); subst_vars; first | exact hb19 | rfl)) ?_
                conv => arg 1; cbv
                refine sat_far hΩ (hg0 _) (by exact (show down.downs (lz0+1) [PV.d (.bool b0_2), PV.map 0 iz1] = [PV.d (.bool b0_2), PV.map (lz0+1) iz1] by simp only [down.downs, down, Nat.zero_add])) ?_
                conv => arg 1; cbv
                obtain rfl := Option.some.inj h
                subst_vars
                exact sat_pure rfl
              · refine sat_brf (by first | exact hb19 | ((try clear h); subst_vars; first | exact hb19 | rfl)) ?_
                conv => arg 1; cbv
                obtain rfl := Option.some.inj h
                subst_vars
                exact sat_pure rfl
        · refine sat_brf (by first | exact hb10 | ((try clear h); subst_vars; first | exact hb10 | rfl)) ?_
          conv => arg 1; cbv
          refine sat_in hΩ ?_
          conv => arg 1; cbv
          replace h := bif_cases h
          rcases h with ⟨hb20, h⟩ | ⟨hb20, h⟩
          · refine sat_brt (by first | exact hb20 | ((try clear h); subst_vars; first | exact hb20 | rfl)) ?_
            conv => arg 1; cbv
            refine sat_in hΩ ?_
            conv => arg 1; cbv
            refine sat_far hΩ (hg0 _) (by exact (show down.downs (lz0+1) [PV.d (.bool b0_1), PV.d (.bool b0_2), PV.map 0 iz1] = [PV.d (.bool b0_1), PV.d (.bool b0_2), PV.map (lz0+1) iz1] by simp only [down.downs, down, Nat.zero_add])) ?_
            conv => arg 1; cbv
            replace h := bif_cases h
            rcases h with ⟨hb21, h⟩ | ⟨hb21, h⟩
            · refine sat_brt (by first | exact hb21 | ((try clear h); subst_vars; first | exact hb21 | rfl)) ?_
              conv => arg 1; cbv
              refine sat_far hΩ (hg0 _) (by exact (show down.downs (lz0+1) [PV.d (.bool b0_2), PV.map 0 iz1] = [PV.d (.bool b0_2), PV.map (lz0+1) iz1] by simp only [down.downs, down, Nat.zero_add])) ?_
              conv => arg 1; cbv
              obtain rfl := Option.some.inj h
              subst_vars
              exact sat_pure rfl
            · refine sat_brf (by first | exact hb21 | ((try clear h); subst_vars; first | exact hb21 | rfl)) ?_
              conv => arg 1; cbv
              obtain rfl := Option.some.inj h
              subst_vars
              exact sat_pure rfl
          · refine sat_brf (by first | exact hb20 | ((try clear h); subst_vars; first | exact hb20 | rfl)) ?_
            conv => arg 1; cbv
            refine sat_in hΩ ?_
            conv => arg 1; cbv
            replace h := bif_cases h
            rcases h with ⟨hb22, h⟩ | ⟨hb22, h⟩
            · refine sat_brt (by first | exact hb22 | ((try clear h); subst_vars; first | exact hb22 | rfl)) ?_
              conv => arg 1; cbv
              refine sat_in hΩ ?_
              conv => arg 1; cbv
              refine sat_far hΩ (hg0 _) (by exact (show down.downs (lz0+1) [PV.map 0 iz1] = [PV.map (lz0+1) iz1] by simp only [down.downs, down, Nat.zero_add])) ?_
              conv => arg 1; cbv
              refine sat_mapfar hΩ (hg1 _) ?_
              conv => arg 1; cbv
              rcases hq24 : mget b1 (Talerun.mk a1_Name a1_Late) with _ | x23
              · rw [hq24] at h
                dsimp only at h
                refine sat_find_none hΩ (mo_Talerun_bool hE) hq24 (by first | rfl | ((try clear h); subst_vars; rfl)) (by first | rfl | ((try clear h); subst_vars; rfl)) ?_
                conv => arg 1; cbv
                refine sat_far hΩ (hg0 _) (by exact (show down.downs (lz0+1) [PV.map 0 iz1] = [PV.map (lz0+1) iz1] by simp only [down.downs, down, Nat.zero_add])) ?_
                conv => arg 1; cbv
                refine sat_mapfar hΩ (hg1 _) ?_
                conv => arg 1; cbv
                refine sat_del hΩ (mo_Talerun_bool hE) b1 (Talerun.mk a1_Name a1_Late) (by first | rfl | ((try clear h); subst_vars; rfl)) (by first | rfl | ((try clear h); subst_vars; rfl)) fun m25 hm26 => ?_
                conv => arg 1; cbv
                refine sat_setfar hΩ (hu1 _ _) ?_
                conv => arg 1; cbv
                refine sat_in hΩ ?_
                conv => arg 1; cbv
                refine sat_tick hΩ ?_
                conv => arg 1; cbv
                obtain rfl := Option.some.inj h
                subst_vars
                exact sat_pure rfl
              · rw [hq24] at h
                dsimp only at h
                refine sat_find_some hΩ (mo_Talerun_bool hE) hq24 (by first | rfl | ((try clear h); subst_vars; rfl)) (by first | rfl | ((try clear h); subst_vars; rfl)) ?_
                conv => arg 1; cbv
                refine sat_far hΩ (hg0 _) (by exact (show down.downs (lz0+1) [PV.map 0 iz1] = [PV.map (lz0+1) iz1] by simp only [down.downs, down, Nat.zero_add])) ?_
                conv => arg 1; cbv
                refine sat_mapfar hΩ (hg1 _) ?_
                conv => arg 1; cbv
                refine sat_del hΩ (mo_Talerun_bool hE) b1 (Talerun.mk a1_Name a1_Late) (by first | rfl | ((try clear h); subst_vars; rfl)) (by first | rfl | ((try clear h); subst_vars; rfl)) fun m27 hm28 => ?_
                conv => arg 1; cbv
                refine sat_setfar hΩ (hu1 _ _) ?_
                conv => arg 1; cbv
                refine sat_in hΩ ?_
                conv => arg 1; cbv
                replace h := bif_cases h
                rcases h with ⟨hb29, h⟩ | ⟨hb29, h⟩
                · refine sat_brt (by first | exact hb29 | ((try clear h); subst_vars; first | exact hb29 | rfl)) ?_
                  conv => arg 1; cbv
                  refine sat_far hΩ (hg0 _) (by exact (show down.downs (lz0+1) [PV.d (.bool b0_1), PV.d (.bool b0_2), PV.map 0 iz1] = [PV.d (.bool b0_1), PV.d (.bool b0_2), PV.map (lz0+1) iz1] by simp only [down.downs, down, Nat.zero_add])) ?_
                  conv => arg 1; cbv
                  replace h := bif_cases h
                  rcases h with ⟨hb30, h⟩ | ⟨hb30, h⟩
                  · refine sat_brt (by first | exact hb30 | ((try clear h); subst_vars; first | exact hb30 | rfl)) ?_
                    conv => arg 1; cbv
                    refine sat_far hΩ (hg0 _) (by exact (show down.downs (lz0+1) [PV.d (.bool b0_2), PV.map 0 iz1] = [PV.d (.bool b0_2), PV.map (lz0+1) iz1] by simp only [down.downs, down, Nat.zero_add])) ?_
                    conv => arg 1; cbv
                    refine sat_tick hΩ ?_
                    conv => arg 1; cbv
                    obtain rfl := Option.some.inj h
                    subst_vars
                    exact sat_pure rfl
                  · refine sat_brf (by first | exact hb30 | ((try clear h); subst_vars; first | exact hb30 | rfl)) ?_
                    conv => arg 1; cbv
                    refine sat_tick hΩ ?_
                    conv => arg 1; cbv
                    obtain rfl := Option.some.inj h
                    subst_vars
                    exact sat_pure rfl
                · refine sat_brf (by first | exact hb29 | ((try clear h); subst_vars; first | exact hb29 | rfl)) ?_
                  conv => arg 1; cbv
                  refine sat_tick hΩ ?_
                  conv => arg 1; cbv
                  obtain rfl := Option.some.inj h
                  subst_vars
                  exact sat_pure rfl
            · refine sat_brf (by first | exact hb22 | ((try clear h); subst_vars; first | exact hb22 | rfl)) ?_
              conv => arg 1; cbv
              obtain rfl := Option.some.inj h
              subst_vars
              exact sat_pure rfl
end Go.Proofs.Ytamllgdaepjcfaa
