/- The interpreter computes just these functions: printed by a small program. -/
import Derived.Test.YtipkggkbldgmjaaKQD
namespace Go.Proofs.Ytipkggkbldgmjaa
open Go Go.X
set_option linter.unusedVariables false
set_option linter.unusedSimpArgs false
set_option maxRecDepth 100000
set_option maxHeartbeats 4000000 in
theorem ok87 {Ω : Om} {E : Enc} (hΩ : real (call S) = Ω) (hE : theEnc = E) {fu : Nat} {a0 : Sl Int} {a1 : Int} {r : Int} (h : P87 fu a0 a1 = some r) {args : List PV} (ha : [PV.d (.sl (E.L_i_u8 a0.l) (E.X_i_u8 a0.x)), PV.d (.int .u8 a1)] = args) (st : St) :
    Sat (Ω.cf 87 args st) (fun q => q = (PV.d (.int .i64 r), st)) := by
  subst ha
  rcases a0 with ⟨a0_l, a0_x⟩
  rw [cf_body hΩ (f := 87) (fn := Try.f87) (x := c87) rfl rfl c87_ok rfl rfl]
  unfold P87 at h
  try dsimp only at h
  conv => arg 1; cbv
  refine sat_len hΩ (ro_i_u8 hE) a0_l (by first | rfl | ((try clear h); subst_vars; rfl)) fun n1 hn2 => ?_
  conv => arg 1; cbv
  obtain ⟨q, hl9, hz⟩ := Option.bind_eq_some_iff.1 h
  clear h
  have h := hz
  clear hz
  refine sat_loop hΩ (fun (a : Int × Int) => (match a with | (i3, i4) => ([(0, PV.d (.sl (E.L_i_u8 a0_l) (E.X_i_u8 a0_x))), (1, PV.d (.int .u8 a1)), (4, PV.d (.int .i64 i3)), (7, PV.d (.int .i64 n1)), (8, PV.d (.int .i64 i4))], ([] : List X.Obj) :: st))) (fun (q : (Int × Int) ⊕ (Int × Int)) => (match q with | .inl (o10, o11) => (.exit 0, [(0, PV.d (.sl (E.L_i_u8 a0_l) (E.X_i_u8 a0_x))), (1, PV.d (.int .u8 a1)), (4, PV.d (.int .i64 o10)), (7, PV.d (.int .i64 n1)), (8, PV.d (.int .i64 o11))], ([] : List X.Obj) :: st) | .inr (o12, o13) => (.ret, [(0, PV.d (.sl (E.L_i_u8 a0_l) (E.X_i_u8 a0_x))), (1, PV.d (.int .u8 a1)), (4, PV.d (.int .i64 o12)), (7, PV.d (.int .i64 n1)), (8, PV.d (.int .i64 o13))], ([] : List X.Obj) :: st))) (0, 0) hl9 (by first | rfl | ((try clear h); subst_vars; rfl) | ((try clear h); subst_vars; simp only [ln_set])) ?_ ?_
  · clear h hl9
    rintro ⟨i3, i4⟩ q h
    unfold P87_s0 at h
    dsimp only at h
    conv => arg 1; cbv
    refine sat_in hΩ ?_
    conv => arg 1; cbv
    replace h := bif_cases h
    rcases h with ⟨hb5, h⟩ | ⟨hb5, h⟩
    · refine sat_brt (by first | exact hb5 | ((try clear h); subst_vars; first | exact hb5 | rfl)) ?_
      conv => arg 1; cbv
      refine sat_true (fits_l hΩ (ro_i_u8 hE) a0_l (by first | rfl | ((try clear h); subst_vars; rfl))) ?_
      conv => arg 1; cbv
      obtain ⟨x6, hx7, hz⟩ := Option.bind_eq_some_iff.1 h
      clear h
      have h := hz
      clear hz
      refine sat_bind (nth_ok hΩ (ro_i_u8 hE) hx7 (by first | rfl | ((try clear h); subst_vars; rfl)) (by first | rfl | ((try clear h); subst_vars; rfl))) ?_
      conv => arg 1; cbv
      refine sat_in hΩ ?_
      conv => arg 1; cbv
      replace h := bif_cases h
      rcases h with ⟨hb8, h⟩ | ⟨hb8, h⟩
      · refine sat_brt (by first | exact hb8 | ((try clear h); subst_vars; first | exact hb8 | rfl)) ?_
        conv => arg 1; cbv
        obtain rfl := Option.some.inj h
        subst_vars
        first | exact sat_pure (.inr ⟨rfl, rfl⟩) | (refine sat_pure (.inr ⟨rfl, ?_⟩); dsimp only; simp only [ln_set]; rfl)
      · refine sat_brf (by first | exact hb8 | ((try clear h); subst_vars; first | exact hb8 | rfl)) ?_
        conv => arg 1; cbv
        obtain rfl := Option.some.inj h
        subst_vars
        first | exact sat_pure ⟨rfl, rfl, rfl⟩ | (refine sat_pure ⟨rfl, ?_, ?_⟩ <;> first | rfl | (dsimp only; simp only [ln_set]; rfl))
    · refine sat_brf (by first | exact hb5 | ((try clear h); subst_vars; first | exact hb5 | rfl)) ?_
      conv => arg 1; cbv
      obtain rfl := Option.some.inj h
      subst_vars
      first | exact sat_pure (.inl ⟨⟨_, rfl⟩, rfl⟩) | (refine sat_pure (.inl ⟨⟨_, rfl⟩, ?_⟩); dsimp only; simp only [ln_set]; rfl)
  · clear hl9
    rcases q with ⟨o10, o11⟩ | ⟨o12, o13⟩
    · dsimp only at h
      conv => arg 1; cbv
      obtain rfl := Option.some.inj h
      subst_vars
      exact sat_pure rfl
    · dsimp only at h
      conv => arg 1; cbv
      obtain rfl := Option.some.inj h
      subst_vars
      exact sat_pure rfl
set_option maxHeartbeats 4000000 in
theorem ok68 {Ω : Om} {E : Enc} (hΩ : real (call S) = Ω) (hE : theEnc = E) {fu : Nat} {a0 : Sl Int} {a1 : Int} {r : Bool} (h : P68 fu a0 a1 = some r) {args : List PV} (ha : [PV.d (.sl (E.L_i_u8 a0.l) (E.X_i_u8 a0.x)), PV.d (.int .u8 a1)] = args) (st : St) :
    Sat (Ω.cf 68 args st) (fun q => q = (PV.d (.bool r), st)) := by
  subst ha
  rcases a0 with ⟨a0_l, a0_x⟩
  rw [cf_body hΩ (f := 68) (fn := Try.f68) (x := c68) rfl rfl c68_ok rfl rfl]
  unfold P68 at h
  try dsimp only at h
  conv => arg 1; cbv
  obtain ⟨r1, hx2, hz⟩ := Option.bind_eq_some_iff.1 h
  clear h
  have h := hz
  clear hz
  refine sat_call (ok87 hΩ hE hx2 (by (try clear h); subst_vars; rfl) _) ?_
  conv => arg 1; cbv
  obtain rfl := Option.some.inj h
  subst_vars
  exact sat_pure rfl
set_option maxHeartbeats 4000000 in
theorem ok60x1 {Ω : Om} {E : Enc} (hΩ : real (call S) = Ω) (hE : theEnc = E) {fu : Nat} {a0 : Cell} {b0 c0 : ByteArray} {S : ByteArray → St} {lz0 iz0 : Nat} (e0 : b0 = c0) (hg0 : ∀ s, X.look (S s) lz0 iz0 = some (X.Obj.box 9 (bx_9 E s))) (hu0 : ∀ s x, X.setO (S s) lz0 iz0 (X.Obj.box 9 (bx_9 E x)) = S x) {r : Bool} (h : P60x1 fu a0 b0 = some r) {args : List PV} (ha : [pv_Cell E a0, PV.ptr lz0 iz0 0] = args) {st : St} (hst : S c0 = st) :
    Sat (Ω.cf 60 args st) (fun q => q = (PV.d (.bool r), S c0)) := by
  subst ha
  subst hst
  subst e0
  rcases a0 with ⟨a0_Kind, a0_Name, ⟨a0_Value__Kind, a0_Value__N, a0_Value__S, ⟨a0_Value__L_l, a0_Value__L_x⟩, ⟨a0_Value__F_l, a0_Value__F_x⟩, a0_Value__Elem, a0_Value__Key, a0_Value__HasKey⟩, ⟨a0_Next_Kind, a0_Next_N, a0_Next_S, ⟨a0_Next_L_l, a0_Next_L_x⟩, ⟨a0_Next_F_l, a0_Next_F_x⟩, a0_Next_Elem, a0_Next_Key, a0_Next_HasKey⟩, ⟨a0_Deps_l, a0_Deps_x⟩, ⟨a0_Do_l, a0_Do_x⟩, ⟨a0_Undo_l, a0_Undo_x⟩, ⟨a0_Env_l, a0_Env_x⟩, a0_Runs, a0_Ran, ⟨a0_Old_l, a0_Old_x⟩, ⟨a0_Past_l, a0_Past_x⟩⟩
  rw [cf_body hΩ (f := 60) (fn := Try.f60) (x := c60) rfl rfl c60_ok rfl rfl]
  unfold P60x1 at h
  try dsimp only at h
  conv => arg 1; cbv
  refine sat_far hΩ (hg0 _) rfl ?_
  conv => arg 1; cbv
  obtain rfl := Option.some.inj h
  subst_vars
  exact sat_pure rfl
set_option maxHeartbeats 4000000 in
theorem ok67x1 {Ω : Om} {E : Enc} (hΩ : real (call S) = Ω) (hE : theEnc = E) {fu : Nat} {a0 : Cell} {b0 c0 : Sl Int} {b2 c2 : ByteArray} {S : ((Sl Int) × ByteArray) → St} {lz0 lz1 ly1 iz0 iz1 iz2 : Nat} (hl1 : ly1 + lz0 = lz1) (e0 : b0 = c0) (e2 : b2 = c2) (hg0 : ∀ s, X.look (S s) lz0 iz0 = some (X.Obj.box 79 (bx_79 E s.1))) (hu0 : ∀ s x, X.setO (S s) lz0 iz0 (X.Obj.box 79 (bx_79 E x)) = S (x, s.2)) (hg1 : ∀ s, X.look (S s) lz0 iz1 = some (X.Obj.box 62 [PV.fn 60 [.ptr ly1 iz2 0]])) (hg2 : ∀ s, X.look (S s) lz1 iz2 = some (X.Obj.box 9 (bx_9 E s.2))) (hu2 : ∀ s x, X.setO (S s) lz1 iz2 (X.Obj.box 9 (bx_9 E x)) = S (s.1, x)) {r : Bool} (h : P67x1 fu a0 b0 b2 = some r) {args : List PV} (ha : [pv_Cell E a0, PV.ptr lz0 iz0 0, PV.ptr lz0 iz1 0] = args) {st : St} (hst : S (c0, c2) = st) :
    Sat (Ω.cf 67 args st) (fun q => q = (PV.d (.bool r), S (c0, c2))) := by
  subst ha
  subst hst
  subst e0
  subst e2
  rcases a0 with ⟨a0_Kind, a0_Name, ⟨a0_Value__Kind, a0_Value__N, a0_Value__S, ⟨a0_Value__L_l, a0_Value__L_x⟩, ⟨a0_Value__F_l, a0_Value__F_x⟩, a0_Value__Elem, a0_Value__Key, a0_Value__HasKey⟩, ⟨a0_Next_Kind, a0_Next_N, a0_Next_S, ⟨a0_Next_L_l, a0_Next_L_x⟩, ⟨a0_Next_F_l, a0_Next_F_x⟩, a0_Next_Elem, a0_Next_Key, a0_Next_HasKey⟩, ⟨a0_Deps_l, a0_Deps_x⟩, ⟨a0_Do_l, a0_Do_x⟩, ⟨a0_Undo_l, a0_Undo_x⟩, ⟨a0_Env_l, a0_Env_x⟩, a0_Runs, a0_Ran, ⟨a0_Old_l, a0_Old_x⟩, ⟨a0_Past_l, a0_Past_x⟩⟩
  rcases b0 with ⟨b0_l, b0_x⟩
  rw [cf_body hΩ (f := 67) (fn := Try.f67) (x := c67) rfl rfl c67_ok rfl rfl]
  unfold P67x1 at h
  try dsimp only at h
  conv => arg 1; cbv
  obtain ⟨q, hq7, hz⟩ := Option.bind_eq_some_iff.1 h
  clear h
  have h := hz
  clear hz
  refine sat_grp hΩ ((fun (q : Bool) => (match q with | i6 => ([(0, PV.agg [.d (.int .u8 a0_Kind), .d (.str a0_Name), .d (.int .u8 a0_Value__Kind), .d (.int .i64 a0_Value__N), .d (.str a0_Value__S), .d (.sl (E.L_Value a0_Value__L_l) (E.X_Value a0_Value__L_x)), .d (.sl (E.L_Field a0_Value__F_l) (E.X_Field a0_Value__F_x)), .d (.int .u8 a0_Value__Elem), .d (.str a0_Value__Key), .d (.bool a0_Value__HasKey), .d (.int .u8 a0_Next_Kind), .d (.int .i64 a0_Next_N), .d (.str a0_Next_S), .d (.sl (E.L_Value a0_Next_L_l) (E.X_Value a0_Next_L_x)), .d (.sl (E.L_Field a0_Next_F_l) (E.X_Field a0_Next_F_x)), .d (.int .u8 a0_Next_Elem), .d (.str a0_Next_Key), .d (.bool a0_Next_HasKey), .d (.sl (E.L_Value a0_Deps_l) (E.X_Value a0_Deps_x)), .d (.sl (E.L_Act a0_Do_l) (E.X_Act a0_Do_x)), .d (.sl (E.L_Act a0_Undo_l) (E.X_Act a0_Undo_x)), .d (.sl (E.L_Field a0_Env_l) (E.X_Field a0_Env_x)), .d (.bool a0_Runs), .d (.bool a0_Ran), .d (.sl (E.L_Act a0_Old_l) (E.X_Act a0_Old_x)), .d (.sl (E.L_Field a0_Past_l) (E.X_Field a0_Past_x))]), (1, PV.ptr (lz0+1) iz0 0), (2, PV.ptr (lz0+1) iz1 0), (3, PV.ptr 0 0 0), (4, PV.d (.bool i6))], ([X.Obj.box 61 [.d (.int .u8 a0_Kind), .d (.str a0_Name), .d (.int .u8 a0_Value__Kind), .d (.int .i64 a0_Value__N), .d (.str a0_Value__S), .d (.sl (E.L_Value a0_Value__L_l) (E.X_Value a0_Value__L_x)), .d (.sl (E.L_Field a0_Value__F_l) (E.X_Field a0_Value__F_x)), .d (.int .u8 a0_Value__Elem), .d (.str a0_Value__Key), .d (.bool a0_Value__HasKey), .d (.int .u8 a0_Next_Kind), .d (.int .i64 a0_Next_N), .d (.str a0_Next_S), .d (.sl (E.L_Value a0_Next_L_l) (E.X_Value a0_Next_L_x)), .d (.sl (E.L_Field a0_Next_F_l) (E.X_Field a0_Next_F_x)), .d (.int .u8 a0_Next_Elem), .d (.str a0_Next_Key), .d (.bool a0_Next_HasKey), .d (.sl (E.L_Value a0_Deps_l) (E.X_Value a0_Deps_x)), .d (.sl (E.L_Act a0_Do_l) (E.X_Act a0_Do_x)), .d (.sl (E.L_Act a0_Undo_l) (E.X_Act a0_Undo_x)), .d (.sl (E.L_Field a0_Env_l) (E.X_Field a0_Env_x)), .d (.bool a0_Runs), .d (.bool a0_Ran), .d (.sl (E.L_Act a0_Old_l) (E.X_Act a0_Old_x)), .d (.sl (E.L_Field a0_Past_l) (E.X_Field a0_Past_x))]] : List X.Obj) :: S ((Sl.mk b0_l b0_x), b2)))) q) (fun k hk => ?_) ?_
  · clear h
    have h := hq7
    clear hq7
    conv => arg 1; cbv
    refine sat_far hΩ (hg0 _) rfl ?_
    conv => arg 1; cbv
    obtain ⟨r1, hx2, hz⟩ := Option.bind_eq_some_iff.1 h
    clear h
    have h := hz
    clear hz
    refine sat_call (ok68 hΩ hE hx2 (by (try clear h); subst_vars; rfl) _) ?_
    conv => arg 1; cbv
    replace h := bif_cases h
    rcases h with ⟨hb3, h⟩ | ⟨hb3, h⟩
    · refine sat_brt (by first | exact hb3 | ((try clear h); subst_vars; first | exact hb3 | rfl)) ?_
      conv => arg 1; cbv
      refine sat_far hΩ (hg1 _) (by exact (show down.downs (lz0+1) [PV.fn 60 [.ptr ly1 iz2 0]] = [PV.fn 60 [.ptr (lz1+1) iz2 0]] by simp only [down.downs, down, Nat.zero_add, ← hl1, Nat.add_assoc])) ?_
      conv => arg 1; cbv
      obtain ⟨r5, hx4, hz⟩ := Option.bind_eq_some_iff.1 h
      clear h
      have h := hz
      clear hz
      refine sat_call (ok60x1 hΩ hE (S := (fun (s : ByteArray) => ([X.Obj.box 61 [.d (.int .u8 a0_Kind), .d (.str a0_Name), .d (.int .u8 a0_Value__Kind), .d (.int .i64 a0_Value__N), .d (.str a0_Value__S), .d (.sl (E.L_Value a0_Value__L_l) (E.X_Value a0_Value__L_x)), .d (.sl (E.L_Field a0_Value__F_l) (E.X_Field a0_Value__F_x)), .d (.int .u8 a0_Value__Elem), .d (.str a0_Value__Key), .d (.bool a0_Value__HasKey), .d (.int .u8 a0_Next_Kind), .d (.int .i64 a0_Next_N), .d (.str a0_Next_S), .d (.sl (E.L_Value a0_Next_L_l) (E.X_Value a0_Next_L_x)), .d (.sl (E.L_Field a0_Next_F_l) (E.X_Field a0_Next_F_x)), .d (.int .u8 a0_Next_Elem), .d (.str a0_Next_Key), .d (.bool a0_Next_HasKey), .d (.sl (E.L_Value a0_Deps_l) (E.X_Value a0_Deps_x)), .d (.sl (E.L_Act a0_Do_l) (E.X_Act a0_Do_x)), .d (.sl (E.L_Act a0_Undo_l) (E.X_Act a0_Undo_x)), .d (.sl (E.L_Field a0_Env_l) (E.X_Field a0_Env_x)), .d (.bool a0_Runs), .d (.bool a0_Ran), .d (.sl (E.L_Act a0_Old_l) (E.X_Act a0_Old_x)), .d (.sl (E.L_Field a0_Past_l) (E.X_Field a0_Past_x))]] : List X.Obj) :: S ((Sl.mk b0_l b0_x), s))) (lz0 := (lz1+1)) (iz0 := iz2) (c0 := b2) (by (try clear h); subst_vars; rfl) (fun s => hg2 ((Sl.mk b0_l b0_x), s)) (fun s x => congrArg (List.cons _) (hu2 ((Sl.mk b0_l b0_x), s) x)) hx4 (by (try clear h); subst_vars; rfl) (by (try clear h); subst_vars; rfl)) ?_
      conv => arg 1; cbv
      obtain rfl := Option.some.inj h
      subst_vars
      first | exact hk | (simp only [ln_set] at hk ⊢; exact hk)
    · refine sat_brf (by first | exact hb3 | ((try clear h); subst_vars; first | exact hb3 | rfl)) ?_
      conv => arg 1; cbv
      obtain rfl := Option.some.inj h
      subst_vars
      first | exact hk | (simp only [ln_set] at hk ⊢; exact hk)
  · clear hq7
    obtain ⟨i6, hqq⟩ : ∃ x, x = q := ⟨_, rfl⟩
    subst hqq
    try dsimp only at h
    conv => arg 1; cbv
    obtain rfl := Option.some.inj h
    subst_vars
    exact sat_pure rfl
set_option maxHeartbeats 4000000 in
theorem ok54x1 {Ω : Om} {E : Enc} (hΩ : real (call S) = Ω) (hE : theEnc = E) {fu : Nat} {a0 : Sl Cell} {b0 c0 : Sl Int} {b2 c2 : ByteArray} {S : ((Sl Int) × ByteArray) → St} {lz0 lz1 ly1 iz0 iz1 iz2 : Nat} (hl1 : ly1 + lz0 = lz1) (e0 : b0 = c0) (e2 : b2 = c2) (hg0 : ∀ s, X.look (S s) lz0 iz0 = some (X.Obj.box 79 (bx_79 E s.1))) (hu0 : ∀ s x, X.setO (S s) lz0 iz0 (X.Obj.box 79 (bx_79 E x)) = S (x, s.2)) (hg1 : ∀ s, X.look (S s) lz0 iz1 = some (X.Obj.box 62 [PV.fn 60 [.ptr ly1 iz2 0]])) (hg2 : ∀ s, X.look (S s) lz1 iz2 = some (X.Obj.box 9 (bx_9 E s.2))) (hu2 : ∀ s x, X.setO (S s) lz1 iz2 (X.Obj.box 9 (bx_9 E x)) = S (s.1, x)) {r : Int} (h : P54x1 fu a0 b0 b2 = some r) {args : List PV} (ha : [PV.d (.sl (E.L_Cell a0.l) (E.X_Cell a0.x)), PV.fn 67 [.ptr lz0 iz0 0, .ptr lz0 iz1 0]] = args) {st : St} (hst : S (c0, c2) = st) :
    Sat (Ω.cf 54 args st) (fun q => q = (PV.d (.int .i64 r), S (c0, c2))) := by
  subst ha
  subst hst
  subst e0
  subst e2
  rcases a0 with ⟨a0_l, a0_x⟩
  rcases b0 with ⟨b0_l, b0_x⟩
  rw [cf_body hΩ (f := 54) (fn := Try.f54) (x := c54) rfl rfl c54_ok rfl rfl]
  unfold P54x1 at h
  try dsimp only at h
  conv => arg 1; cbv
  refine sat_len hΩ (ro_Cell hE) a0_l (by first | rfl | ((try clear h); subst_vars; rfl)) fun n1 hn2 => ?_
  conv => arg 1; cbv
  obtain ⟨q, hl11, hz⟩ := Option.bind_eq_some_iff.1 h
  clear h
  have h := hz
  clear hz
  refine sat_loop hΩ (fun (a : Int × Int) => (match a with | (i3, i4) => ([(0, PV.d (.sl (E.L_Cell a0_l) (E.X_Cell a0_x))), (1, PV.fn 67 [.ptr (lz0+1) iz0 0, .ptr (lz0+1) iz1 0]), (4, PV.d (.int .i64 i3)), (7, PV.d (.int .i64 n1)), (8, PV.d (.int .i64 i4))], ([] : List X.Obj) :: S ((Sl.mk b0_l b0_x), b2)))) (fun (q : (Int × Int) ⊕ (Int × Int)) => (match q with | .inl (o12, o13) => (.exit 0, [(0, PV.d (.sl (E.L_Cell a0_l) (E.X_Cell a0_x))), (1, PV.fn 67 [.ptr (lz0+1) iz0 0, .ptr (lz0+1) iz1 0]), (4, PV.d (.int .i64 o12)), (7, PV.d (.int .i64 n1)), (8, PV.d (.int .i64 o13))], ([] : List X.Obj) :: S ((Sl.mk b0_l b0_x), b2)) | .inr (o14, o15) => (.ret, [(0, PV.d (.sl (E.L_Cell a0_l) (E.X_Cell a0_x))), (1, PV.fn 67 [.ptr (lz0+1) iz0 0, .ptr (lz0+1) iz1 0]), (4, PV.d (.int .i64 o14)), (7, PV.d (.int .i64 n1)), (8, PV.d (.int .i64 o15))], ([] : List X.Obj) :: S ((Sl.mk b0_l b0_x), b2)))) (0, 0) hl11 (by first | rfl | ((try clear h); subst_vars; rfl) | ((try clear h); subst_vars; simp only [ln_set])) ?_ ?_
  · clear h hl11
    rintro ⟨i3, i4⟩ q h
    unfold P54x1_s0 at h
    dsimp only at h
    conv => arg 1; cbv
    refine sat_in hΩ ?_
    conv => arg 1; cbv
    replace h := bif_cases h
    rcases h with ⟨hb5, h⟩ | ⟨hb5, h⟩
    · refine sat_brt (by first | exact hb5 | ((try clear h); subst_vars; first | exact hb5 | rfl)) ?_
      conv => arg 1; cbv
      refine sat_true (fits_l hΩ (ro_Cell hE) a0_l (by first | rfl | ((try clear h); subst_vars; rfl))) ?_
      conv => arg 1; cbv
      obtain ⟨⟨x6_Kind, x6_Name, ⟨x6_Value__Kind, x6_Value__N, x6_Value__S, ⟨x6_Value__L_l, x6_Value__L_x⟩, ⟨x6_Value__F_l, x6_Value__F_x⟩, x6_Value__Elem, x6_Value__Key, x6_Value__HasKey⟩, ⟨x6_Next_Kind, x6_Next_N, x6_Next_S, ⟨x6_Next_L_l, x6_Next_L_x⟩, ⟨x6_Next_F_l, x6_Next_F_x⟩, x6_Next_Elem, x6_Next_Key, x6_Next_HasKey⟩, ⟨x6_Deps_l, x6_Deps_x⟩, ⟨x6_Do_l, x6_Do_x⟩, ⟨x6_Undo_l, x6_Undo_x⟩, ⟨x6_Env_l, x6_Env_x⟩, x6_Runs, x6_Ran, ⟨x6_Old_l, x6_Old_x⟩, ⟨x6_Past_l, x6_Past_x⟩⟩, hx7, hz⟩ := Option.bind_eq_some_iff.1 h
      clear h
      have h := hz
      clear hz
      try dsimp only at h
      refine sat_bind (nth_ok hΩ (ro_Cell hE) hx7 (by first | rfl | ((try clear h); subst_vars; rfl)) (by first | rfl | ((try clear h); subst_vars; rfl))) ?_
      conv => arg 1; cbv
      obtain ⟨r9, hx8, hz⟩ := Option.bind_eq_some_iff.1 h
      clear h
      have h := hz
      clear hz
      refine sat_call (ok67x1 hΩ hE (S := (fun (s : (Sl Int) × ByteArray) => ([] : List X.Obj) :: S (s.1, s.2))) (lz0 := (lz0+1)) (lz1 := (lz1+1)) (ly1 := ly1) (iz0 := iz0) (iz1 := iz1) (iz2 := iz2) (c0 := (Sl.mk b0_l b0_x)) (c2 := b2) (by first | rfl | omega) (by (try clear h); subst_vars; rfl) (by (try clear h); subst_vars; rfl) (fun s => hg0 (s.1, s.2)) (fun s x => congrArg (List.cons _) (hu0 (s.1, s.2) x)) (fun s => hg1 (s.1, s.2)) (fun s => hg2 (s.1, s.2)) (fun s x => congrArg (List.cons _) (hu2 (s.1, s.2) x)) hx8 (by (try clear h); subst_vars; rfl) (by (try clear h); subst_vars; rfl)) ?_
      conv => arg 1; cbv
      refine sat_in hΩ ?_
      conv => arg 1; cbv
      replace h := bif_cases h
      rcases h with ⟨hb10, h⟩ | ⟨hb10, h⟩
      · refine sat_brt (by first | exact hb10 | ((try clear h); subst_vars; first | exact hb10 | rfl)) ?_
        conv => arg 1; cbv
        obtain rfl := Option.some.inj h
        subst_vars
        first | exact sat_pure (.inr ⟨rfl, rfl⟩) | (refine sat_pure (.inr ⟨rfl, ?_⟩); dsimp only; simp only [ln_set]; rfl)
      · refine sat_brf (by first | exact hb10 | ((try clear h); subst_vars; first | exact hb10 | rfl)) ?_
        conv => arg 1; cbv
        obtain rfl := Option.some.inj h
        subst_vars
        first | exact sat_pure ⟨rfl, rfl, rfl⟩ | (refine sat_pure ⟨rfl, ?_, ?_⟩ <;> first | rfl | (dsimp only; simp only [ln_set]; rfl))
    · refine sat_brf (by first | exact hb5 | ((try clear h); subst_vars; first | exact hb5 | rfl)) ?_
      conv => arg 1; cbv
      obtain rfl := Option.some.inj h
      subst_vars
      first | exact sat_pure (.inl ⟨⟨_, rfl⟩, rfl⟩) | (refine sat_pure (.inl ⟨⟨_, rfl⟩, ?_⟩); dsimp only; simp only [ln_set]; rfl)
  · clear hl11
    rcases q with ⟨o12, o13⟩ | ⟨o14, o15⟩
    · dsimp only at h
      conv => arg 1; cbv
      obtain rfl := Option.some.inj h
      subst_vars
      exact sat_pure rfl
    · dsimp only at h
      conv => arg 1; cbv
      obtain rfl := Option.some.inj h
      subst_vars
      exact sat_pure rfl
set_option maxHeartbeats 4000000 in
theorem ok45x1 {Ω : Om} {E : Enc} (hΩ : real (call S) = Ω) (hE : theEnc = E) {fu : Nat} {a0 : Sl Cell} {a2 : Sl Int} {b0 c0 : ByteArray} {S : ByteArray → St} {lz0 iz0 : Nat} (e0 : b0 = c0) (hg0 : ∀ s, X.look (S s) lz0 iz0 = some (X.Obj.box 9 (bx_9 E s))) (hu0 : ∀ s x, X.setO (S s) lz0 iz0 (X.Obj.box 9 (bx_9 E x)) = S x) {r : Int} (h : P45x1 fu a0 a2 b0 = some r) {args : List PV} (ha : [PV.d (.sl (E.L_Cell a0.l) (E.X_Cell a0.x)), PV.fn 60 [.ptr lz0 iz0 0], PV.d (.sl (E.L_i_u8 a2.l) (E.X_i_u8 a2.x))] = args) {st : St} (hst : S c0 = st) :
    Sat (Ω.cf 45 args st) (fun q => q = (PV.d (.int .i64 r), S c0)) := by
  subst ha
  subst hst
  subst e0
  rcases a0 with ⟨a0_l, a0_x⟩
  rcases a2 with ⟨a2_l, a2_x⟩
  rw [cf_body hΩ (f := 45) (fn := Try.f45) (x := c45) rfl rfl c45_ok rfl rfl]
  unfold P45x1 at h
  try dsimp only at h
  conv => arg 1; cbv
  obtain ⟨r2, hx1, hz⟩ := Option.bind_eq_some_iff.1 h
  clear h
  have h := hz
  clear hz
  refine sat_call (ok54x1 hΩ hE (S := (fun (s : (Sl Int) × ByteArray) => ([X.Obj.box 62 [.fn 60 [.ptr (lz0+1) iz0 0]], X.Obj.box 79 (bx_79 E s.1)] : List X.Obj) :: S s.2)) (lz0 := 0) (lz1 := (lz0+1)) (ly1 := (lz0+1)) (iz0 := 1) (iz1 := 0) (iz2 := iz0) (c0 := (Sl.mk a2_l a2_x)) (c2 := b0) (by first | rfl | omega) (by (try clear h); subst_vars; rfl) (by (try clear h); subst_vars; rfl) (fun s => rfl) (fun s x => rfl) (fun s => rfl) (fun s => hg0 s.2) (fun s x => congrArg (List.cons _) (hu0 s.2 x)) hx1 (by (try clear h); subst_vars; rfl) (by (try clear h); subst_vars; rfl)) ?_
  conv => arg 1; cbv
  obtain rfl := Option.some.inj h
  subst_vars
  exact sat_pure rfl
set_option maxHeartbeats 4000000 in
theorem ok40 {Ω : Om} {E : Enc} (hΩ : real (call S) = Ω) (hE : theEnc = E) {fu : Nat} {a0 : Sl Cell} {a1 : ByteArray} {r : Int} (h : P40 fu a0 a1 = some r) {args : List PV} (ha : [PV.d (.sl (E.L_Cell a0.l) (E.X_Cell a0.x)), PV.d (.str a1)] = args) (st : St) :
    Sat (Ω.cf 40 args st) (fun q => q = (PV.d (.int .i64 r), st)) := by
  subst ha
  rcases a0 with ⟨a0_l, a0_x⟩
  rw [cf_body hΩ (f := 40) (fn := Try.f40) (x := c40) rfl rfl c40_ok rfl rfl]
  unfold P40 at h
  try dsimp only at h
  conv => arg 1; cbv
  obtain ⟨r2, hx1, hz⟩ := Option.bind_eq_some_iff.1 h
  clear h
  have h := hz
  clear hz
  refine sat_call (ok45x1 hΩ hE (S := (fun (s : ByteArray) => ([X.Obj.box 9 (bx_9 E s)] : List X.Obj) :: st)) (lz0 := 0) (iz0 := 0) (c0 := a1) (by (try clear h); subst_vars; rfl) (fun s => rfl) (fun s x => rfl) hx1 (by (try clear h); subst_vars; rfl) (by (try clear h); subst_vars; rfl)) ?_
  conv => arg 1; cbv
  obtain rfl := Option.some.inj h
  subst_vars
  exact sat_pure rfl
set_option maxHeartbeats 4000000 in
theorem ok82 {Ω : Om} {E : Enc} (hΩ : real (call S) = Ω) (hE : theEnc = E) {fu : Nat} {a0 : ByteArray} {r : Bool} (h : P82 fu a0 = some r) {args : List PV} (ha : [PV.d (.str a0)] = args) (st : St) :
    Sat (Ω.cf 82 args st) (fun q => q = (PV.d (.bool r), st)) := by
  subst ha
  rw [cf_body hΩ (f := 82) (fn := Try.f82) (x := c82) rfl rfl c82_ok rfl rfl]
  unfold P82 at h
  try dsimp only at h
  conv => arg 1; cbv
  obtain ⟨q, hq3, hz⟩ := Option.bind_eq_some_iff.1 h
  clear h
  have h := hz
  clear hz
  refine sat_grp hΩ ((fun (q : Bool) => (match q with | i2 => ([(0, PV.d (.str a0)), (2, PV.d (.bool i2))], ([] : List X.Obj) :: st))) q) (fun k hk => ?_) ?_
  · clear h
    have h := hq3
    clear hq3
    conv => arg 1; cbv
    replace h := bif_cases h
    rcases h with ⟨hb1, h⟩ | ⟨hb1, h⟩
    · refine sat_brt (by first | exact hb1 | ((try clear h); subst_vars; first | exact hb1 | rfl)) ?_
      conv => arg 1; cbv
      obtain rfl := Option.some.inj h
      subst_vars
      first | exact hk | (simp only [ln_set] at hk ⊢; exact hk)
    · refine sat_brf (by first | exact hb1 | ((try clear h); subst_vars; first | exact hb1 | rfl)) ?_
      conv => arg 1; cbv
      obtain rfl := Option.some.inj h
      subst_vars
      first | exact hk | (simp only [ln_set] at hk ⊢; exact hk)
  · clear hq3
    obtain ⟨i2, hqq⟩ : ∃ x, x = q := ⟨_, rfl⟩
    subst hqq
    try dsimp only at h
    conv => arg 1; cbv
    obtain rfl := Option.some.inj h
    subst_vars
    exact sat_pure rfl
set_option maxHeartbeats 4000000 in
theorem ok89 {Ω : Om} {E : Enc} (hΩ : real (call S) = Ω) (hE : theEnc = E) {fu : Nat} {a0 : Int} {r : (Sl ByteArray) × Bool} (h : P89 fu a0 = some r) {args : List PV} (ha : [PV.d (.int .u8 a0)] = args) (st : St) :
    Sat (Ω.cf 89 args st) (fun q => q = (PV.tup [PV.d (.sl (E.L_str r.1.l) (E.X_str r.1.x)), PV.d (.bool r.2)], st)) := by
  subst ha
  rw [cf_body hΩ (f := 89) (fn := Try.f89) (x := c89) rfl rfl c89_ok rfl rfl]
  unfold P89 at h
  try dsimp only at h
  conv => arg 1; cbv
  obtain ⟨q, hq16, hz⟩ := Option.bind_eq_some_iff.1 h
  clear h
  have h := hz
  clear hz
  refine sat_grp hΩ ((fun (q : Unit ⊕ ((List ByteArray) × (Option (List ByteArray)))) => (match q with | .inl _ => (.normal, [(0, PV.d (.int .u8 a0)), (2, PV.d (.sl [] (some []))), (3, PV.d (.bool false)), (4, PV.d (.int .u8 a0))], ([] : List X.Obj) :: st) | .inr (i15_l, i15_x) => (.ret, [(0, PV.d (.int .u8 a0)), (2, PV.d (.sl (E.L_str i15_l) (E.X_str i15_x))), (3, PV.d (.bool true)), (4, PV.d (.int .u8 a0))], ([] : List X.Obj) :: st))) q) (fun k hk => ?_) ?_
  · clear h
    have h := hq16
    clear hq16
    conv => arg 1; cbv
    replace h := bif_cases h
    rcases h with ⟨hb1, h⟩ | ⟨hb1, h⟩
    · refine sat_brt (by first | exact hb1 | ((try clear h); subst_vars; first | exact hb1 | rfl)) ?_
      conv => arg 1; cbv
      obtain rfl := Option.some.inj h
      subst_vars
      first | exact hk | (simp only [ln_set] at hk ⊢; exact hk)
    · refine sat_brf (by first | exact hb1 | ((try clear h); subst_vars; first | exact hb1 | rfl)) ?_
      conv => arg 1; cbv
      obtain ⟨q, hq14, hz⟩ := Option.bind_eq_some_iff.1 h
      clear h
      have h := hz
      clear hz
      refine sat_grp hΩ ((fun (q : Unit ⊕ ((List ByteArray) × (Option (List ByteArray)))) => (match q with | .inl _ => (.normal, [(0, PV.d (.int .u8 a0)), (2, PV.d (.sl [] (some []))), (3, PV.d (.bool false)), (4, PV.d (.int .u8 a0))], ([] : List X.Obj) :: st) | .inr (i13_l, i13_x) => (.ret, [(0, PV.d (.int .u8 a0)), (2, PV.d (.sl (E.L_str i13_l) (E.X_str i13_x))), (3, PV.d (.bool true)), (4, PV.d (.int .u8 a0))], ([] : List X.Obj) :: st))) q) (fun k hk => ?_) ?_
      · clear h
        have h := hq14
        clear hq14
        conv => arg 1; cbv
        replace h := bif_cases h
        rcases h with ⟨hb2, h⟩ | ⟨hb2, h⟩
        · refine sat_brt (by first | exact hb2 | ((try clear h); subst_vars; first | exact hb2 | rfl)) ?_
          conv => arg 1; cbv
          obtain ⟨l3, hx4, hz⟩ := Option.bind_eq_some_iff.1 h
          clear h
          have h := hz
          clear hz
          have hL5 : ([[.str (⟨#[97, 103, 97, 105, 110]⟩ : ByteArray)], [.str (⟨#[101, 108, 115, 101]⟩ : ByteArray)]] : List (List D)) = E.L_str l3 := by (have hy := Option.some.inj hx4; clear h; subst hy; subst hE; rfl)
          rw [hL5]
          clear hL5
          conv => arg 1; cbv
          obtain rfl := Option.some.inj h
          subst_vars
          first | exact hk | (simp only [ln_set] at hk ⊢; exact hk)
        · refine sat_brf (by first | exact hb2 | ((try clear h); subst_vars; first | exact hb2 | rfl)) ?_
          conv => arg 1; cbv
          obtain ⟨q, hq12, hz⟩ := Option.bind_eq_some_iff.1 h
          clear h
          have h := hz
          clear hz
          refine sat_grp hΩ ((fun (q : Unit ⊕ ((List ByteArray) × (Option (List ByteArray)))) => (match q with | .inl _ => (.normal, [(0, PV.d (.int .u8 a0)), (2, PV.d (.sl [] (some []))), (3, PV.d (.bool false)), (4, PV.d (.int .u8 a0))], ([] : List X.Obj) :: st) | .inr (i11_l, i11_x) => (.ret, [(0, PV.d (.int .u8 a0)), (2, PV.d (.sl (E.L_str i11_l) (E.X_str i11_x))), (3, PV.d (.bool true)), (4, PV.d (.int .u8 a0))], ([] : List X.Obj) :: st))) q) (fun k hk => ?_) ?_
          · clear h
            have h := hq12
            clear hq12
            conv => arg 1; cbv
            replace h := bif_cases h
            rcases h with ⟨hb6, h⟩ | ⟨hb6, h⟩
            · refine sat_brt (by first | exact hb6 | ((try clear h); subst_vars; first | exact hb6 | rfl)) ?_
              conv => arg 1; cbv
              obtain rfl := Option.some.inj h
              subst_vars
              first | exact hk | (simp only [ln_set] at hk ⊢; exact hk)
            · refine sat_brf (by first | exact hb6 | ((try clear h); subst_vars; first | exact hb6 | rfl)) ?_
              conv => arg 1; cbv
              obtain ⟨q, hq10, hz⟩ := Option.bind_eq_some_iff.1 h
              clear h
              have h := hz
              clear hz
              refine sat_grp hΩ ((fun (q : Bool) => (match q with | i8 => (.normal, [(0, PV.d (.int .u8 a0)), (2, PV.d (.sl [] (some []))), (3, PV.d (.bool false)), (4, PV.d (.int .u8 a0)), (14, PV.d (.bool i8))], ([] : List X.Obj) :: st))) q) (fun k hk => ?_) ?_
              · clear h
                have h := hq10
                clear hq10
                conv => arg 1; cbv
                replace h := bif_cases h
                rcases h with ⟨hb7, h⟩ | ⟨hb7, h⟩
                · refine sat_brt (by first | exact hb7 | ((try clear h); subst_vars; first | exact hb7 | rfl)) ?_
                  conv => arg 1; cbv
                  obtain rfl := Option.some.inj h
                  subst_vars
                  first | exact hk | (simp only [ln_set] at hk ⊢; exact hk)
                · refine sat_brf (by first | exact hb7 | ((try clear h); subst_vars; first | exact hb7 | rfl)) ?_
                  conv => arg 1; cbv
                  obtain rfl := Option.some.inj h
                  subst_vars
                  first | exact hk | (simp only [ln_set] at hk ⊢; exact hk)
              · clear hq10
                obtain ⟨i8, hqq⟩ : ∃ x, x = q := ⟨_, rfl⟩
                subst hqq
                try dsimp only at h
                conv => arg 1; cbv
                refine sat_in hΩ ?_
                conv => arg 1; cbv
                replace h := bif_cases h
                rcases h with ⟨hb9, h⟩ | ⟨hb9, h⟩
                · refine sat_brt (by first | exact hb9 | ((try clear h); subst_vars; first | exact hb9 | rfl)) ?_
                  conv => arg 1; cbv
                  obtain rfl := Option.some.inj h
                  subst_vars
                  first | exact hk | (simp only [ln_set] at hk ⊢; exact hk)
                · refine sat_brf (by first | exact hb9 | ((try clear h); subst_vars; first | exact hb9 | rfl)) ?_
                  conv => arg 1; cbv
                  obtain rfl := Option.some.inj h
                  subst_vars
                  first | exact hk | (simp only [ln_set] at hk ⊢; exact hk)
          · clear hq12
            rcases q with _ | ⟨i11_l, i11_x⟩
            · try dsimp only at h
              conv => arg 1; cbv
              obtain rfl := Option.some.inj h
              subst_vars
              first | exact hk | (simp only [ln_set] at hk ⊢; exact hk)
            · try dsimp only at h
              conv => arg 1; cbv
              obtain rfl := Option.some.inj h
              subst_vars
              first | exact hk | (simp only [ln_set] at hk ⊢; exact hk)
      · clear hq14
        rcases q with _ | ⟨i13_l, i13_x⟩
        · try dsimp only at h
          conv => arg 1; cbv
          obtain rfl := Option.some.inj h
          subst_vars
          first | exact hk | (simp only [ln_set] at hk ⊢; exact hk)
        · try dsimp only at h
          conv => arg 1; cbv
          obtain rfl := Option.some.inj h
          subst_vars
          first | exact hk | (simp only [ln_set] at hk ⊢; exact hk)
  · clear hq16
    rcases q with _ | ⟨i15_l, i15_x⟩
    · try dsimp only at h
      conv => arg 1; cbv
      obtain rfl := Option.some.inj h
      subst_vars
      exact sat_pure rfl
    · try dsimp only at h
      conv => arg 1; cbv
      obtain rfl := Option.some.inj h
      subst_vars
      exact sat_pure rfl
set_option maxHeartbeats 4000000 in
theorem ok90 {Ω : Om} {E : Enc} (hΩ : real (call S) = Ω) (hE : theEnc = E) {fu : Nat} {a0 : Sl Field} {a1 : Sl ByteArray} {a2 : (Field → ByteArray → Option (Bool))} {a2_g : Nat} (hf : ∀ {x0 : Field} {x1 : ByteArray} {r : Bool}, a2 x0 x1 = some r → ∀ {args : List PV}, [pv_Field E x0, PV.d (.str x1)] = args → ∀ (st : St), Sat (Ω.cf a2_g args st) (fun q => q = (PV.d (.bool r), st))) {r : Bool} (h : P90 fu a0 a1 a2 = some r) {args : List PV} (ha : [PV.d (.sl (E.L_Field a0.l) (E.X_Field a0.x)), PV.d (.sl (E.L_str a1.l) (E.X_str a1.x)), PV.d (.fn a2_g [])] = args) (st : St) :
    Sat (Ω.cf 90 args st) (fun q => q = (PV.d (.bool r), st)) := by
  subst ha
  rcases a0 with ⟨a0_l, a0_x⟩
  rcases a1 with ⟨a1_l, a1_x⟩
  rw [cf_body hΩ (f := 90) (fn := Try.f90) (x := c90) rfl rfl c90_ok rfl rfl]
  unfold P90 at h
  try dsimp only at h
  conv => arg 1; cbv
  refine sat_len hΩ (ro_Field hE) a0_l (by first | rfl | ((try clear h); subst_vars; rfl)) fun n1 hn2 => ?_
  conv => arg 1; cbv
  refine sat_len hΩ (ro_str hE) a1_l (by first | rfl | ((try clear h); subst_vars; rfl)) fun n3 hn4 => ?_
  conv => arg 1; cbv
  refine sat_in hΩ ?_
  conv => arg 1; cbv
  replace h := bif_cases h
  rcases h with ⟨hb5, h⟩ | ⟨hb5, h⟩
  · refine sat_brt (by first | exact hb5 | ((try clear h); subst_vars; first | exact hb5 | rfl)) ?_
    conv => arg 1; cbv
    obtain rfl := Option.some.inj h
    subst_vars
    exact sat_pure rfl
  · refine sat_brf (by first | exact hb5 | ((try clear h); subst_vars; first | exact hb5 | rfl)) ?_
    conv => arg 1; cbv
    refine sat_len hΩ (ro_Field hE) a0_l (by first | rfl | ((try clear h); subst_vars; rfl)) fun n6 hn7 => ?_
    conv => arg 1; cbv
    obtain ⟨q, hl17, hz⟩ := Option.bind_eq_some_iff.1 h
    clear h
    have h := hz
    clear hz
    refine sat_loop hΩ (fun (a : Int) => (match a with | i8 => ([(0, PV.d (.sl (E.L_Field a0_l) (E.X_Field a0_x))), (1, PV.d (.sl (E.L_str a1_l) (E.X_str a1_x))), (2, PV.d (.fn a2_g [])), (6, PV.d (.bool false)), (15, PV.d (.sl (E.L_Field a0_l) (E.X_Field a0_x))), (16, PV.d (.int .i64 n6)), (17, PV.d (.int .i64 i8))], ([] : List X.Obj) :: st))) (fun (q : Int ⊕ Int) => (match q with | .inl o18 => (.exit 0, [(0, PV.d (.sl (E.L_Field a0_l) (E.X_Field a0_x))), (1, PV.d (.sl (E.L_str a1_l) (E.X_str a1_x))), (2, PV.d (.fn a2_g [])), (6, PV.d (.bool false)), (15, PV.d (.sl (E.L_Field a0_l) (E.X_Field a0_x))), (16, PV.d (.int .i64 n6)), (17, PV.d (.int .i64 o18))], ([] : List X.Obj) :: st) | .inr o19 => (.ret, [(0, PV.d (.sl (E.L_Field a0_l) (E.X_Field a0_x))), (1, PV.d (.sl (E.L_str a1_l) (E.X_str a1_x))), (2, PV.d (.fn a2_g [])), (6, PV.d (.bool false)), (15, PV.d (.sl (E.L_Field a0_l) (E.X_Field a0_x))), (16, PV.d (.int .i64 n6)), (17, PV.d (.int .i64 o19))], ([] : List X.Obj) :: st))) 0 hl17 (by first | rfl | ((try clear h); subst_vars; rfl) | ((try clear h); subst_vars; simp only [ln_set])) ?_ ?_
    · clear h hl17
      rintro i8 q h
      unfold P90_s0 at h
      dsimp only at h
      conv => arg 1; cbv
      refine sat_in hΩ ?_
      conv => arg 1; cbv
      replace h := bif_cases h
      rcases h with ⟨hb9, h⟩ | ⟨hb9, h⟩
      · refine sat_brt (by first | exact hb9 | ((try clear h); subst_vars; first | exact hb9 | rfl)) ?_
        conv => arg 1; cbv
        refine sat_true (fits_l hΩ (ro_Field hE) a0_l (by first | rfl | ((try clear h); subst_vars; rfl))) ?_
        conv => arg 1; cbv
        obtain ⟨⟨x10_Name, ⟨x10_Value__Kind, x10_Value__N, x10_Value__S, ⟨x10_Value__L_l, x10_Value__L_x⟩, ⟨x10_Value__F_l, x10_Value__F_x⟩, x10_Value__Elem, x10_Value__Key, x10_Value__HasKey⟩⟩, hx11, hz⟩ := Option.bind_eq_some_iff.1 h
        clear h
        have h := hz
        clear hz
        try dsimp only at h
        refine sat_bind (nth_ok hΩ (ro_Field hE) hx11 (by first | rfl | ((try clear h); subst_vars; rfl)) (by first | rfl | ((try clear h); subst_vars; rfl))) ?_
        conv => arg 1; cbv
        refine sat_true (fits_l hΩ (ro_str hE) a1_l (by first | rfl | ((try clear h); subst_vars; rfl))) ?_
        conv => arg 1; cbv
        obtain ⟨x12, hx13, hz⟩ := Option.bind_eq_some_iff.1 h
        clear h
        have h := hz
        clear hz
        refine sat_bind (nth_ok hΩ (ro_str hE) hx13 (by first | rfl | ((try clear h); subst_vars; rfl)) (by first | rfl | ((try clear h); subst_vars; rfl))) ?_
        conv => arg 1; cbv
        obtain ⟨r14, hx15, hz⟩ := Option.bind_eq_some_iff.1 h
        clear h
        have h := hz
        clear hz
        refine sat_call (hf hx15 (by (try clear h); subst_vars; rfl) _) ?_
        conv => arg 1; cbv
        refine sat_in hΩ ?_
        conv => arg 1; cbv
        replace h := bif_cases h
        rcases h with ⟨hb16, h⟩ | ⟨hb16, h⟩
        · refine sat_brt (by first | exact hb16 | ((try clear h); subst_vars; first | exact hb16 | rfl)) ?_
          conv => arg 1; cbv
          obtain rfl := Option.some.inj h
          subst_vars
          first | exact sat_pure (.inr ⟨rfl, rfl⟩) | (refine sat_pure (.inr ⟨rfl, ?_⟩); dsimp only; simp only [ln_set]; rfl)
        · refine sat_brf (by first | exact hb16 | ((try clear h); subst_vars; first | exact hb16 | rfl)) ?_
          conv => arg 1; cbv
          obtain rfl := Option.some.inj h
          subst_vars
          first | exact sat_pure ⟨rfl, rfl, rfl⟩ | (refine sat_pure ⟨rfl, ?_, ?_⟩ <;> first | rfl | (dsimp only; simp only [ln_set]; rfl))
      · refine sat_brf (by first | exact hb9 | ((try clear h); subst_vars; first | exact hb9 | rfl)) ?_
        conv => arg 1; cbv
        obtain rfl := Option.some.inj h
        subst_vars
        first | exact sat_pure (.inl ⟨⟨_, rfl⟩, rfl⟩) | (refine sat_pure (.inl ⟨⟨_, rfl⟩, ?_⟩); dsimp only; simp only [ln_set]; rfl)
    · clear hl17
      rcases q with o18 | o19
      · dsimp only at h
        conv => arg 1; cbv
        obtain rfl := Option.some.inj h
        subst_vars
        exact sat_pure rfl
      · dsimp only at h
        conv => arg 1; cbv
        obtain rfl := Option.some.inj h
        subst_vars
        exact sat_pure rfl
set_option maxHeartbeats 4000000 in
theorem ok91 {Ω : Om} {E : Enc} (hΩ : real (call S) = Ω) (hE : theEnc = E) {fu : Nat} {a0 : Field} {a1 : ByteArray} {r : Bool} (h : P91 fu a0 a1 = some r) {args : List PV} (ha : [pv_Field E a0, PV.d (.str a1)] = args) (st : St) :
    Sat (Ω.cf 91 args st) (fun q => q = (PV.d (.bool r), st)) := by
  subst ha
  rcases a0 with ⟨a0_Name, ⟨a0_Value__Kind, a0_Value__N, a0_Value__S, ⟨a0_Value__L_l, a0_Value__L_x⟩, ⟨a0_Value__F_l, a0_Value__F_x⟩, a0_Value__Elem, a0_Value__Key, a0_Value__HasKey⟩⟩
  rw [cf_body hΩ (f := 91) (fn := Try.f91) (x := c91) rfl rfl c91_ok rfl rfl]
  unfold P91 at h
  try dsimp only at h
  conv => arg 1; cbv
  obtain rfl := Option.some.inj h
  subst_vars
  exact sat_pure rfl
set_option maxHeartbeats 4000000 in
theorem ok83 {Ω : Om} {E : Enc} (hΩ : real (call S) = Ω) (hE : theEnc = E) {fu : Nat} {a0 : Value} {r : Bool} (h : P83 fu a0 = some r) {args : List PV} (ha : [pv_Value E a0] = args) (st : St) :
    Sat (Ω.cf 83 args st) (fun q => q = (PV.d (.bool r), st)) := by
  subst ha
  rcases a0 with ⟨a0_Kind, a0_N, a0_S, ⟨a0_L_l, a0_L_x⟩, ⟨a0_F_l, a0_F_x⟩, a0_Elem, a0_Key, a0_HasKey⟩
  rw [cf_body hΩ (f := 83) (fn := Try.f83) (x := c83) rfl rfl c83_ok rfl rfl]
  unfold P83 at h
  try dsimp only at h
  conv => arg 1; cbv
  obtain ⟨q, hq26, hz⟩ := Option.bind_eq_some_iff.1 h
  clear h
  have h := hz
  clear hz
  refine sat_grp hΩ ((fun (q : Bool) => (match q with | i6 => ([(0, PV.agg [.d (.int .u8 a0_Kind), .d (.int .i64 a0_N), .d (.str a0_S), .d (.sl (E.L_Value a0_L_l) (E.X_Value a0_L_x)), .d (.sl (E.L_Field a0_F_l) (E.X_Field a0_F_x)), .d (.int .u8 a0_Elem), .d (.str a0_Key), .d (.bool a0_HasKey)]), (1, PV.ptr 0 0 0), (2, PV.d (.bool false)), (33, PV.d (.bool i6))], ([X.Obj.box 27 [.d (.int .u8 a0_Kind), .d (.int .i64 a0_N), .d (.str a0_S), .d (.sl (E.L_Value a0_L_l) (E.X_Value a0_L_x)), .d (.sl (E.L_Field a0_F_l) (E.X_Field a0_F_x)), .d (.int .u8 a0_Elem), .d (.str a0_Key), .d (.bool a0_HasKey)]] : List X.Obj) :: st))) q) (fun k hk => ?_) ?_
  · clear h
    have h := hq26
    clear hq26
    conv => arg 1; cbv
    replace h := bif_cases h
    rcases h with ⟨hb1, h⟩ | ⟨hb1, h⟩
    · refine sat_brt (by first | exact hb1 | ((try clear h); subst_vars; first | exact hb1 | rfl)) ?_
      conv => arg 1; cbv
      replace h := bif_cases h
      rcases h with ⟨hb2, h⟩ | ⟨hb2, h⟩
      · refine sat_brt (by first | exact hb2 | ((try clear h); subst_vars; first | exact hb2 | rfl)) ?_
        conv => arg 1; cbv
        refine sat_tick hΩ ?_
        conv => arg 1; cbv
        replace h := bif_cases h
        rcases h with ⟨hb3, h⟩ | ⟨hb3, h⟩
        · refine sat_brt (by first | exact hb3 | ((try clear h); subst_vars; first | exact hb3 | rfl)) ?_
          conv => arg 1; cbv
          replace h := bif_cases h
          rcases h with ⟨hb4, h⟩ | ⟨hb4, h⟩
          · refine sat_brt (by first | exact hb4 | ((try clear h); subst_vars; first | exact hb4 | rfl)) ?_
            conv => arg 1; cbv
            refine sat_tick hΩ ?_
            conv => arg 1; cbv
            replace h := bif_cases h
            rcases h with ⟨hb5, h⟩ | ⟨hb5, h⟩
            · refine sat_brt (by first | exact hb5 | ((try clear h); subst_vars; first | exact hb5 | rfl)) ?_
              conv => arg 1; cbv
              obtain rfl := Option.some.inj h
              subst_vars
              first | exact hk | (simp only [ln_set] at hk ⊢; exact hk)
            · refine sat_brf (by first | exact hb5 | ((try clear h); subst_vars; first | exact hb5 | rfl)) ?_
              conv => arg 1; cbv
              obtain rfl := Option.some.inj h
              subst_vars
              first | exact hk | (simp only [ln_set] at hk ⊢; exact hk)
          · refine sat_brf (by first | exact hb4 | ((try clear h); subst_vars; first | exact hb4 | rfl)) ?_
            conv => arg 1; cbv
            refine sat_tick hΩ ?_
            conv => arg 1; cbv
            obtain rfl := Option.some.inj h
            subst_vars
            first | exact hk | (simp only [ln_set] at hk ⊢; exact hk)
        · refine sat_brf (by first | exact hb3 | ((try clear h); subst_vars; first | exact hb3 | rfl)) ?_
          conv => arg 1; cbv
          refine sat_tick hΩ ?_
          conv => arg 1; cbv
          obtain rfl := Option.some.inj h
          subst_vars
          first | exact hk | (simp only [ln_set] at hk ⊢; exact hk)
      · refine sat_brf (by first | exact hb2 | ((try clear h); subst_vars; first | exact hb2 | rfl)) ?_
        conv => arg 1; cbv
        refine sat_tick hΩ ?_
        conv => arg 1; cbv
        refine sat_tick hΩ ?_
        conv => arg 1; cbv
        obtain rfl := Option.some.inj h
        subst_vars
        first | exact hk | (simp only [ln_set] at hk ⊢; exact hk)
    · refine sat_brf (by first | exact hb1 | ((try clear h); subst_vars; first | exact hb1 | rfl)) ?_
      conv => arg 1; cbv
      refine sat_tick hΩ ?_
      conv => arg 1; cbv
      refine sat_tick hΩ ?_
      conv => arg 1; cbv
      obtain rfl := Option.some.inj h
      subst_vars
      first | exact hk | (simp only [ln_set] at hk ⊢; exact hk)
  · clear hq26
    obtain ⟨i6, hqq⟩ : ∃ x, x = q := ⟨_, rfl⟩
    subst hqq
    try dsimp only at h
    conv => arg 1; cbv
    refine sat_in hΩ ?_
    conv => arg 1; cbv
    replace h := bif_cases h
    rcases h with ⟨hb7, h⟩ | ⟨hb7, h⟩
    · refine sat_brt (by first | exact hb7 | ((try clear h); subst_vars; first | exact hb7 | rfl)) ?_
      conv => arg 1; cbv
      obtain rfl := Option.some.inj h
      subst_vars
      exact sat_pure rfl
    · refine sat_brf (by first | exact hb7 | ((try clear h); subst_vars; first | exact hb7 | rfl)) ?_
      conv => arg 1; cbv
      obtain ⟨⟨⟨r8_l, r8_x⟩, r9⟩, hx10, hz⟩ := Option.bind_eq_some_iff.1 h
      clear h
      have h := hz
      clear hz
      try dsimp only at h
      refine sat_call (ok89 hΩ hE hx10 (by (try clear h); subst_vars; rfl) _) ?_
      conv => arg 1; cbv
      obtain ⟨q, hq25, hz⟩ := Option.bind_eq_some_iff.1 h
      clear h
      have h := hz
      clear hz
      refine sat_grp hΩ ((fun (q : Bool) => (match q with | i14 => ([(0, PV.agg [.d (.int .u8 a0_Kind), .d (.int .i64 a0_N), .d (.str a0_S), .d (.sl (E.L_Value a0_L_l) (E.X_Value a0_L_x)), .d (.sl (E.L_Field a0_F_l) (E.X_Field a0_F_x)), .d (.int .u8 a0_Elem), .d (.str a0_Key), .d (.bool a0_HasKey)]), (1, PV.ptr 0 0 0), (2, PV.d (.bool false)), (3, PV.d (.sl (E.L_str r8_l) (E.X_str r8_x))), (4, PV.d (.bool r9)), (47, PV.d (.bool i14))], ([X.Obj.box 27 [.d (.int .u8 a0_Kind), .d (.int .i64 a0_N), .d (.str a0_S), .d (.sl (E.L_Value a0_L_l) (E.X_Value a0_L_x)), .d (.sl (E.L_Field a0_F_l) (E.X_Field a0_F_x)), .d (.int .u8 a0_Elem), .d (.str a0_Key), .d (.bool a0_HasKey)]] : List X.Obj) :: st))) q) (fun k hk => ?_) ?_
      · clear h
        have h := hq25
        clear hq25
        conv => arg 1; cbv
        replace h := bif_cases h
        rcases h with ⟨hb11, h⟩ | ⟨hb11, h⟩
        · refine sat_brt (by first | exact hb11 | ((try clear h); subst_vars; first | exact hb11 | rfl)) ?_
          conv => arg 1; cbv
          obtain ⟨r12, hx13, hz⟩ := Option.bind_eq_some_iff.1 h
          clear h
          have h := hz
          clear hz
          refine sat_call (ok90 hΩ hE (hf := fun h => @fun args ha st => ok91 hΩ hE h ha st) hx13 (by (try clear h); subst_vars; rfl) _) ?_
          conv => arg 1; cbv
          obtain rfl := Option.some.inj h
          subst_vars
          first | exact hk | (simp only [ln_set] at hk ⊢; exact hk)
        · refine sat_brf (by first | exact hb11 | ((try clear h); subst_vars; first | exact hb11 | rfl)) ?_
          conv => arg 1; cbv
          obtain rfl := Option.some.inj h
          subst_vars
          first | exact hk | (simp only [ln_set] at hk ⊢; exact hk)
      · clear hq25
        obtain ⟨i14, hqq⟩ : ∃ x, x = q := ⟨_, rfl⟩
        subst hqq
        try dsimp only at h
        conv => arg 1; cbv
        refine sat_in hΩ ?_
        conv => arg 1; cbv
        replace h := bif_cases h
        rcases h with ⟨hb15, h⟩ | ⟨hb15, h⟩
        · refine sat_brt (by first | exact hb15 | ((try clear h); subst_vars; first | exact hb15 | rfl)) ?_
          conv => arg 1; cbv
          obtain rfl := Option.some.inj h
          subst_vars
          exact sat_pure rfl
        · refine sat_brf (by first | exact hb15 | ((try clear h); subst_vars; first | exact hb15 | rfl)) ?_
          conv => arg 1; cbv
          obtain ⟨q, hq24, hz⟩ := Option.bind_eq_some_iff.1 h
          clear h
          have h := hz
          clear hz
          refine sat_grp hΩ ((fun (q : Bool) => (match q with | i20 => (.normal, [(0, PV.agg [.d (.int .u8 a0_Kind), .d (.int .i64 a0_N), .d (.str a0_S), .d (.sl (E.L_Value a0_L_l) (E.X_Value a0_L_x)), .d (.sl (E.L_Field a0_F_l) (E.X_Field a0_F_x)), .d (.int .u8 a0_Elem), .d (.str a0_Key), .d (.bool a0_HasKey)]), (1, PV.ptr 0 0 0), (2, PV.d (.bool false)), (3, PV.d (.sl (E.L_str r8_l) (E.X_str r8_x))), (4, PV.d (.bool r9)), (49, PV.d (.int .u8 a0_Elem)), (50, PV.d (.bool i20))], ([X.Obj.box 27 [.d (.int .u8 a0_Kind), .d (.int .i64 a0_N), .d (.str a0_S), .d (.sl (E.L_Value a0_L_l) (E.X_Value a0_L_x)), .d (.sl (E.L_Field a0_F_l) (E.X_Field a0_F_x)), .d (.int .u8 a0_Elem), .d (.str a0_Key), .d (.bool a0_HasKey)]] : List X.Obj) :: st))) q) (fun k hk => ?_) ?_
          · clear h
            have h := hq24
            clear hq24
            conv => arg 1; cbv
            replace h := bif_cases h
            rcases h with ⟨hb16, h⟩ | ⟨hb16, h⟩
            · refine sat_brt (by first | exact hb16 | ((try clear h); subst_vars; first | exact hb16 | rfl)) ?_
              conv => arg 1; cbv
              obtain rfl := Option.some.inj h
              subst_vars
              first | exact hk | (simp only [ln_set] at hk ⊢; exact hk)
            · refine sat_brf (by first | exact hb16 | ((try clear h); subst_vars; first | exact hb16 | rfl)) ?_
              conv => arg 1; cbv
              obtain ⟨q, hq19, hz⟩ := Option.bind_eq_some_iff.1 h
              clear h
              have h := hz
              clear hz
              refine sat_grp hΩ ((fun (q : Bool) => (match q with | i18 => (.normal, [(0, PV.agg [.d (.int .u8 a0_Kind), .d (.int .i64 a0_N), .d (.str a0_S), .d (.sl (E.L_Value a0_L_l) (E.X_Value a0_L_x)), .d (.sl (E.L_Field a0_F_l) (E.X_Field a0_F_x)), .d (.int .u8 a0_Elem), .d (.str a0_Key), .d (.bool a0_HasKey)]), (1, PV.ptr 0 0 0), (2, PV.d (.bool false)), (3, PV.d (.sl (E.L_str r8_l) (E.X_str r8_x))), (4, PV.d (.bool r9)), (49, PV.d (.int .u8 a0_Elem)), (50, PV.d (.bool i18))], ([X.Obj.box 27 [.d (.int .u8 a0_Kind), .d (.int .i64 a0_N), .d (.str a0_S), .d (.sl (E.L_Value a0_L_l) (E.X_Value a0_L_x)), .d (.sl (E.L_Field a0_F_l) (E.X_Field a0_F_x)), .d (.int .u8 a0_Elem), .d (.str a0_Key), .d (.bool a0_HasKey)]] : List X.Obj) :: st))) q) (fun k hk => ?_) ?_
              · clear h
                have h := hq19
                clear hq19
                conv => arg 1; cbv
                replace h := bif_cases h
                rcases h with ⟨hb17, h⟩ | ⟨hb17, h⟩
                · refine sat_brt (by first | exact hb17 | ((try clear h); subst_vars; first | exact hb17 | rfl)) ?_
                  conv => arg 1; cbv
                  obtain rfl := Option.some.inj h
                  subst_vars
                  first | exact hk | (simp only [ln_set] at hk ⊢; exact hk)
                · refine sat_brf (by first | exact hb17 | ((try clear h); subst_vars; first | exact hb17 | rfl)) ?_
                  conv => arg 1; cbv
                  obtain rfl := Option.some.inj h
                  subst_vars
                  first | exact hk | (simp only [ln_set] at hk ⊢; exact hk)
              · clear hq19
                obtain ⟨i18, hqq⟩ : ∃ x, x = q := ⟨_, rfl⟩
                subst hqq
                try dsimp only at h
                conv => arg 1; cbv
                obtain rfl := Option.some.inj h
                subst_vars
                first | exact hk | (simp only [ln_set] at hk ⊢; exact hk)
          · clear hq24
            obtain ⟨i20, hqq⟩ : ∃ x, x = q := ⟨_, rfl⟩
            subst hqq
            try dsimp only at h
            conv => arg 1; cbv
            refine sat_in hΩ ?_
            conv => arg 1; cbv
            replace h := bif_cases h
            rcases h with ⟨hb21, h⟩ | ⟨hb21, h⟩
            · refine sat_brt (by first | exact hb21 | ((try clear h); subst_vars; first | exact hb21 | rfl)) ?_
              conv => arg 1; cbv
              obtain rfl := Option.some.inj h
              subst_vars
              exact sat_pure rfl
            · refine sat_brf (by first | exact hb21 | ((try clear h); subst_vars; first | exact hb21 | rfl)) ?_
              conv => arg 1; cbv
              obtain ⟨r22, hx23, hz⟩ := Option.bind_eq_some_iff.1 h
              clear h
              have h := hz
              clear hz
              refine sat_call (ok82 hΩ hE hx23 (by (try clear h); subst_vars; rfl) _) ?_
              conv => arg 1; cbv
              obtain rfl := Option.some.inj h
              subst_vars
              exact sat_pure rfl
set_option maxHeartbeats 4000000 in
theorem ok92 {Ω : Om} {E : Enc} (hΩ : real (call S) = Ω) (hE : theEnc = E) {fu : Nat} {a0 : Sl Int} {a1 : Int} {r : Int} (h : P92 fu a0 a1 = some r) {args : List PV} (ha : [PV.d (.sl (E.L_i_u8 a0.l) (E.X_i_u8 a0.x)), PV.d (.int .u8 a1)] = args) (st : St) :
    Sat (Ω.cf 92 args st) (fun q => q = (PV.d (.int .i64 r), st)) := by
  subst ha
  rcases a0 with ⟨a0_l, a0_x⟩
  rw [cf_body hΩ (f := 92) (fn := Try.f92) (x := c92) rfl rfl c92_ok rfl rfl]
  unfold P92 at h
  try dsimp only at h
  conv => arg 1; cbv
  refine sat_len hΩ (ro_i_u8 hE) a0_l (by first | rfl | ((try clear h); subst_vars; rfl)) fun n1 hn2 => ?_
  conv => arg 1; cbv
  obtain ⟨q, hl9, hz⟩ := Option.bind_eq_some_iff.1 h
  clear h
  have h := hz
  clear hz
  refine sat_loop hΩ (fun (a : Int × Int) => (match a with | (i3, i4) => ([(0, PV.d (.sl (E.L_i_u8 a0_l) (E.X_i_u8 a0_x))), (1, PV.d (.int .u8 a1)), (4, PV.d (.int .i64 i3)), (7, PV.d (.int .i64 n1)), (8, PV.d (.int .i64 i4))], ([] : List X.Obj) :: st))) (fun (q : (Int × Int) ⊕ (Int × Int)) => (match q with | .inl (o10, o11) => (.exit 0, [(0, PV.d (.sl (E.L_i_u8 a0_l) (E.X_i_u8 a0_x))), (1, PV.d (.int .u8 a1)), (4, PV.d (.int .i64 o10)), (7, PV.d (.int .i64 n1)), (8, PV.d (.int .i64 o11))], ([] : List X.Obj) :: st) | .inr (o12, o13) => (.ret, [(0, PV.d (.sl (E.L_i_u8 a0_l) (E.X_i_u8 a0_x))), (1, PV.d (.int .u8 a1)), (4, PV.d (.int .i64 o12)), (7, PV.d (.int .i64 n1)), (8, PV.d (.int .i64 o13))], ([] : List X.Obj) :: st))) (0, 0) hl9 (by first | rfl | ((try clear h); subst_vars; rfl) | ((try clear h); subst_vars; simp only [ln_set])) ?_ ?_
  · clear h hl9
    rintro ⟨i3, i4⟩ q h
    unfold P92_s0 at h
    dsimp only at h
    conv => arg 1; cbv
    refine sat_in hΩ ?_
    conv => arg 1; cbv
    replace h := bif_cases h
    rcases h with ⟨hb5, h⟩ | ⟨hb5, h⟩
    · refine sat_brt (by first | exact hb5 | ((try clear h); subst_vars; first | exact hb5 | rfl)) ?_
      conv => arg 1; cbv
      refine sat_true (fits_l hΩ (ro_i_u8 hE) a0_l (by first | rfl | ((try clear h); subst_vars; rfl))) ?_
      conv => arg 1; cbv
      obtain ⟨x6, hx7, hz⟩ := Option.bind_eq_some_iff.1 h
      clear h
      have h := hz
      clear hz
      refine sat_bind (nth_ok hΩ (ro_i_u8 hE) hx7 (by first | rfl | ((try clear h); subst_vars; rfl)) (by first | rfl | ((try clear h); subst_vars; rfl))) ?_
      conv => arg 1; cbv
      refine sat_in hΩ ?_
      conv => arg 1; cbv
      replace h := bif_cases h
      rcases h with ⟨hb8, h⟩ | ⟨hb8, h⟩
      · refine sat_brt (by first | exact hb8 | ((try clear h); subst_vars; first | exact hb8 | rfl)) ?_
        conv => arg 1; cbv
        obtain rfl := Option.some.inj h
        subst_vars
        first | exact sat_pure (.inr ⟨rfl, rfl⟩) | (refine sat_pure (.inr ⟨rfl, ?_⟩); dsimp only; simp only [ln_set]; rfl)
      · refine sat_brf (by first | exact hb8 | ((try clear h); subst_vars; first | exact hb8 | rfl)) ?_
        conv => arg 1; cbv
        obtain rfl := Option.some.inj h
        subst_vars
        first | exact sat_pure ⟨rfl, rfl, rfl⟩ | (refine sat_pure ⟨rfl, ?_, ?_⟩ <;> first | rfl | (dsimp only; simp only [ln_set]; rfl))
    · refine sat_brf (by first | exact hb5 | ((try clear h); subst_vars; first | exact hb5 | rfl)) ?_
      conv => arg 1; cbv
      obtain rfl := Option.some.inj h
      subst_vars
      first | exact sat_pure (.inl ⟨⟨_, rfl⟩, rfl⟩) | (refine sat_pure (.inl ⟨⟨_, rfl⟩, ?_⟩); dsimp only; simp only [ln_set]; rfl)
  · clear hl9
    rcases q with ⟨o10, o11⟩ | ⟨o12, o13⟩
    · dsimp only at h
      conv => arg 1; cbv
      obtain rfl := Option.some.inj h
      subst_vars
      exact sat_pure rfl
    · dsimp only at h
      conv => arg 1; cbv
      obtain rfl := Option.some.inj h
      subst_vars
      exact sat_pure rfl
set_option maxHeartbeats 4000000 in
theorem ok85 {Ω : Om} {E : Enc} (hΩ : real (call S) = Ω) (hE : theEnc = E) {fu : Nat} {a0 : Sl Int} {a1 : Int} {r : Bool} (h : P85 fu a0 a1 = some r) {args : List PV} (ha : [PV.d (.sl (E.L_i_u8 a0.l) (E.X_i_u8 a0.x)), PV.d (.int .u8 a1)] = args) (st : St) :
    Sat (Ω.cf 85 args st) (fun q => q = (PV.d (.bool r), st)) := by
  subst ha
  rcases a0 with ⟨a0_l, a0_x⟩
  rw [cf_body hΩ (f := 85) (fn := Try.f85) (x := c85) rfl rfl c85_ok rfl rfl]
  unfold P85 at h
  try dsimp only at h
  conv => arg 1; cbv
  obtain ⟨r1, hx2, hz⟩ := Option.bind_eq_some_iff.1 h
  clear h
  have h := hz
  clear hz
  refine sat_call (ok92 hΩ hE hx2 (by (try clear h); subst_vars; rfl) _) ?_
  conv => arg 1; cbv
  obtain rfl := Option.some.inj h
  subst_vars
  exact sat_pure rfl
set_option maxHeartbeats 4000000 in
theorem ok84x1 {Ω : Om} {E : Enc} (hΩ : real (call S) = Ω) (hE : theEnc = E) {fu : Nat} {a0 : Sl Int} {b0 c0 : Value} {S : Value → St} {lz0 iz0 : Nat} (e0 : b0 = c0) (hg0 : ∀ s, X.look (S s) lz0 iz0 = some (X.Obj.box 27 (bx_27 E s))) (hu0 : ∀ s x, X.setO (S s) lz0 iz0 (X.Obj.box 27 (bx_27 E x)) = S x) {r : Bool} (h : P84x1 fu a0 b0 = some r) {args : List PV} (ha : [PV.d (.sl (E.L_i_u8 a0.l) (E.X_i_u8 a0.x)), PV.ptr lz0 iz0 0] = args) {st : St} (hst : S c0 = st) :
    Sat (Ω.cf 84 args st) (fun q => q = (PV.d (.bool r), S c0)) := by
  subst ha
  subst hst
  subst e0
  rcases a0 with ⟨a0_l, a0_x⟩
  rcases b0 with ⟨b0_Kind, b0_N, b0_S, ⟨b0_L_l, b0_L_x⟩, ⟨b0_F_l, b0_F_x⟩, b0_Elem, b0_Key, b0_HasKey⟩
  rw [cf_body hΩ (f := 84) (fn := Try.f84) (x := c84) rfl rfl c84_ok rfl rfl]
  unfold P84x1 at h
  try dsimp only at h
  conv => arg 1; cbv
  refine sat_far hΩ (hg0 _) rfl ?_
  conv => arg 1; cbv
  obtain ⟨r1, hx2, hz⟩ := Option.bind_eq_some_iff.1 h
  clear h
  have h := hz
  clear hz
  refine sat_call (ok85 hΩ hE hx2 (by (try clear h); subst_vars; rfl) _) ?_
  conv => arg 1; cbv
  obtain rfl := Option.some.inj h
  subst_vars
  exact sat_pure rfl
end Go.Proofs.Ytipkggkbldgmjaa
