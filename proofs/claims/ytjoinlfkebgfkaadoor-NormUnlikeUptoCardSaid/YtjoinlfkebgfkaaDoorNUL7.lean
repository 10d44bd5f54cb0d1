/- NormUnlike on plain data, where what comes in is not too much: no two children have one key. -/
import Derived.Test.YtjoinlfkebgfkaaDoorNUL6
namespace Go.Proofs.YtjoinlfkebgfkaaDoor
open Go Go.X
set_option linter.unusedVariables false
set_option linter.unusedSimpArgs false
set_option maxRecDepth 100000
theorem bbeq_iff {a b : ByteArray} : (a == b) = true ↔ a = b := by
  obtain ⟨a⟩ := a
  obtain ⟨b⟩ := b
  show (a == b) = true ↔ _
  simp
theorem mget_mset : ∀ (m : Seen) (k x : ByteArray) (v : Bool), mget (mset m k v) x = bif x == k then some v else mget m x
  | [], k, x, v => by
    simp only [mset, mget]
    cases hb : x == k with
    | true => simp
    | false => simp
  | (j, u) :: r, k, x, v => by
    simp only [mset, mget]
    cases hb : k == j with
    | true =>
      obtain rfl := bbeq_iff.1 hb
      simp only [if_true, mget]
      cases h : x == k <;> simp
    | false =>
      simp only [mget, Bool.false_eq_true, if_false]
      rw [mget_mset r k x v]
      cases h : x == j with
      | true =>
        obtain rfl := bbeq_iff.1 h
        have : (x == k) = false := by
          cases h' : x == k with
          | false => rfl
          | true => rw [bbeq_iff.1 h'] at hb; rw [bbeq_iff.2 rfl] at hb; cases hb
        simp [this]
      | false => simp
theorem dec_big {u : Nat} (h : ¬ u < 10) : Lib.decDigits u = Lib.decDigits (u / 10) ++ [UInt8.ofNat (48 + u % 10)] := by rw [Lib.decDigits, dif_neg h]
theorem u8_inj {a b : Nat} (ha : a < 10) (hb : b < 10) (h : UInt8.ofNat (48 + a) = UInt8.ofNat (48 + b)) : a = b := by
  have := congrArg UInt8.toNat h
  simp only [UInt8.toNat_ofNat'] at this
  omega
theorem dec_ne (u : Nat) : Lib.decDigits u ≠ [] := fun h => by
  have := congrArg List.length h
  rw [Lib.decDigits_length] at this
  have h2 := Lib.nDigits_pos u
  simp at this
  omega
theorem dec_inj : ∀ (u v : Nat), Lib.decDigits u = Lib.decDigits v → u = v := by
  intro u
  induction u using Nat.strongRecOn with
  | ind u ih =>
    intro v h
    by_cases hu : u < 10 <;> by_cases hv : v < 10
    · rw [Lib.decDigits_one hu, Lib.decDigits_one hv] at h
      exact u8_inj hu hv (by simpa using h)
    · rw [Lib.decDigits_one hu, dec_big hv] at h
      exact absurd (List.append_eq_singleton_iff.1 h.symm) (by
        rintro (⟨h1, _⟩ | ⟨_, h2⟩)
        · exact dec_ne _ h1
        · cases h2)
    · rw [Lib.decDigits_one hv, dec_big hu] at h
      exact absurd (List.append_eq_singleton_iff.1 h) (by
        rintro (⟨h1, _⟩ | ⟨_, h2⟩)
        · exact dec_ne _ h1
        · cases h2)
    · rw [dec_big hu, dec_big hv] at h
      obtain ⟨h1, h2⟩ := List.append_inj' h rfl
      have := ih (u / 10) (by omega) (v / 10) h1
      have := u8_inj (Nat.mod_lt _ (by omega)) (Nat.mod_lt _ (by omega)) (by simpa using h2)
      omega
theorem itoaB_inj {u v : Nat} (h : itoaB (u : Int) = itoaB (v : Int)) : u = v := by
  have h1 := congrArg (fun b => b.data.toList) h
  simp only [itoaB, Lib.itoa_nonneg] at h1
  exact dec_inj u v h1
def iP : ByteArray := ⟨#[105, 58]⟩
def kP : ByteArray := ⟨#[107, 58]⟩
theorem ik_ne {a b : ByteArray} (h : iP ++ a = kP ++ b) : False := by
  have := congrArg (fun t => t.extract 0 2) h
  simp only [ByteArray.extract_append_eq_left (show 2 = iP.size from rfl), ByteArray.extract_append_eq_left (show 2 = kP.size from rfl)] at this
  exact absurd (congrArg ByteArray.data this) (by decide)
def GoodKid (c : Child) : Prop := ((∃ t, c.Key = iP ++ t) ∨ (∃ t, c.Key = kP ++ t)) ∧ (0 < c.Kind ∧ c.Kind ≤ 9) ∧ (c.Kind = 9 → c.Name = ByteArray.empty)
def OwnKey (n : Nat) (seen : Seen) (c : Child) : Prop := (∃ q : Nat, q < n ∧ c.Key = iP ++ itoaB (q : Int)) ∨ (∃ k, c.Key = kP ++ k ∧ mget seen k = some true)
structure KInv (n : Nat) (out : List Child) (seen : Seen) : Prop where
  good : ∀ c ∈ out, GoodKid c
  nodup : (out.map Child.Key).Nodup
  own : ∀ c ∈ out, OwnKey n seen c
theorem kid_kind {v : Value} {k : Int} {nm : ByteArray} {w : Value} (hk : kidOf v = some (k, nm, w)) : (0 < k ∧ k ≤ 9) ∧ (k = 9 → nm = ByteArray.empty) := by
  obtain ⟨k', n, s, l, f, e, c, b⟩ := v
  rw [kidOf] at hk
  cases hq1 : (k' == 1) with
  | true => rw [hq1, cond_true] at hk; cases hk; exact ⟨by omega, fun _ => rfl⟩
  | false =>
  rw [hq1, cond_false] at hk
  cases hq3 : (k' == 3) with
  | true => rw [hq3, cond_true] at hk; cases hk; exact ⟨by omega, fun _ => rfl⟩
  | false =>
  rw [hq3, cond_false] at hk
  cases h6 : (k' == 6) with
  | false => rw [h6] at hk; cases hk
  | true =>
  rw [h6] at hk
  cases h7 : decide (0 < e) with
  | false => rw [h7] at hk; cases hk
  | true =>
  rw [h7] at hk
  cases h8 : decide (e < 9) with
  | false => rw [h8] at hk; cases hk
  | true =>
    rw [h8] at hk
    simp only [cond_true, Option.some.injEq, Prod.mk.injEq] at hk
    obtain ⟨rfl, rfl, _⟩ := hk
    simp only [decide_eq_true_eq] at h7 h8
    exact ⟨by omega, fun h => by omega⟩
/-- A key is new, and its own. -/
theorem key_new {n : Nat} {out : List Child} {seen : Seen} (v : Value) (h : KInv n out seen) :
    (∀ c ∈ out, c.Key ≠ (keyOf (n : Int) seen v).1) ∧ (∀ c ∈ out, OwnKey (n + 1) (keyOf (n : Int) seen v).2 c) ∧
    ((∃ t, (keyOf (n : Int) seen v).1 = iP ++ t) ∨ (∃ t, (keyOf (n : Int) seen v).1 = kP ++ t)) ∧
    ∀ k nm w, OwnKey (n + 1) (keyOf (n : Int) seen v).2 (Child.mk (keyOf (n : Int) seen v).1 k nm w) := by
  obtain ⟨k', nn, s, l, f, e, c, b⟩ := v
  rw [keyOf]
  cases hq : (bif k' == 6 then bif b then (match mget seen c with | none => true | some x => !x) else false else false) with
  | false =>
    rw [cond_false]
    refine ⟨fun q hq he => ?_, fun q hq => ?_, .inl ⟨_, rfl⟩, fun k nm w => .inl ⟨n, by omega, rfl⟩⟩
    · rcases h.own q hq with ⟨m, h1, h2⟩ | ⟨k, h1, _⟩
      · have h3 := itoaB_inj ((ByteArray.append_right_inj iP).1 (h2.symm.trans he))
        omega
      · exact ik_ne (he.symm.trans h1)
    · rcases h.own q hq with ⟨m, h1, h2⟩ | h1
      · exact .inl ⟨m, by omega, h2⟩
      · exact .inr h1
  | true =>
    rw [cond_true]
    have hc : mget seen c ≠ some true := fun hc => by
      cases h6 : (k' == 6) <;> cases b <;> rw [h6] at hq <;> simp [hc] at hq
    refine ⟨fun q hq he => ?_, fun q hq => ?_, .inr ⟨_, rfl⟩, fun k nm w => .inr ⟨c, rfl, by rw [mget_mset, bbeq_iff.2 rfl]; rfl⟩⟩
    · rcases h.own q hq with ⟨m, h1, h2⟩ | ⟨k, h1, h2⟩
      · exact ik_ne (h2.symm.trans he)
      · have h3 := (ByteArray.append_right_inj kP).1 (h1.symm.trans he)
        rw [h3] at h2
        exact hc h2
    · rcases h.own q hq with ⟨m, h1, h2⟩ | ⟨k, h1, h2⟩
      · exact .inl ⟨m, by omega, h2⟩
      · refine .inr ⟨k, h1, ?_⟩
        rw [mget_mset, h2]
        cases k == c <;> rfl
theorem KInv.more {n : Nat} {out : List Child} {seen : Seen} (h : KInv n out seen) : KInv (n + 1) out seen :=
  ⟨h.good, h.nodup, fun q hq => by
    rcases h.own q hq with ⟨m, h1, h2⟩ | h1
    · exact .inl ⟨m, by omega, h2⟩
    · exact .inr h1⟩
theorem stp_inv {n : Nat} {v : Value} {out : List Child} {seen : Seen} (h : KInv n out seen) : KInv (n + 1) (stp (n : Int) v out seen).2.1 (stp (n : Int) v out seen).2.2 := by
  unfold stp
  cases ln out == 4096 with
  | true => exact h.more
  | false =>
    rw [cond_false]
    split
    · exact h.more
    · rename_i k nm w hk
      obtain ⟨g1, g2, g3, g4⟩ := key_new v h
      obtain ⟨g5, g6⟩ := kid_kind hk
      refine ⟨fun q hq => ?_, ?_, fun q hq => ?_⟩
      · rcases List.mem_append.1 hq with hq | hq
        · exact h.good q hq
        · rw [List.mem_singleton] at hq
          subst hq
          exact ⟨g3, g5, g6⟩
      · rw [List.map_append, List.nodup_append]
        refine ⟨h.nodup, by simp, fun a ha b hb he => ?_⟩
        obtain ⟨q, hq, rfl⟩ := List.mem_map.1 ha
        simp only [List.map_cons, List.map_nil, List.mem_singleton] at hb
        subst hb
        exact g1 q hq he
      · rcases List.mem_append.1 hq with hq | hq
        · exact g2 q hq
        · rw [List.mem_singleton] at hq
          subst hq
          exact g4 _ _ _
theorem run_inv : ∀ (fs : List Value) (n : Nat) (out : List Child) (seen : Seen), n + fs.length ≤ 9000000000000 → KInv n out seen → ∃ n' s', KInv n' (run fs (n : Int) out seen).2.2.1 s'
  | [], n, out, seen, _, h => ⟨n, seen, h⟩
  | v :: r, n, out, seen, hn, h => by
    have h1 := stp_inv (v := v) h
    rw [run]
    generalize stp (n : Int) v out seen = t at h1
    rw [List.length_cons] at hn
    obtain ⟨_ | _, out', seen'⟩ := t
    · exact ⟨_, _, h1⟩
    · have e : w64 ((n : Int) + 1) = ((n + 1 : Nat) : Int) := w64_succ (by omega)
      dsimp only
      rw [e]
      exact run_inv r (n + 1) _ _ (by omega) h1
theorem inner_ok {fu : Nat} {r : List Child} {i : Nat} (hi : i < r.length) (hr : r.length ≤ 4096) (hn : (r.map Child.Key).Nodup) : ∃ x, wl (P3_s1 fu r (i : Int) (r[i]).Key) 0 = some (.inl x) := by
  obtain ⟨b, h1, x, h2⟩ := wl_rule (f := P3_s1 fu r (i : Int) (r[i]).Key) (fun a => ∃ k : Nat, a = (k : Int) ∧ k ≤ i) (fun a => i - a.toNat) (fun b => ∃ x, b = .inl x) (fun a hI => by
    obtain ⟨k, rfl, hk⟩ := hI
    unfold P3_s1
    dsimp only
    by_cases hlt : k < i
    · have e1 : decide ((k : Int) < (i : Int)) = true := by simp; omega
      rw [e1, cond_true, Option.bind_some]
      cases decide ((i : Int) < 400) with
      | false => exact .inr ⟨_, rfl, _, rfl⟩
      | true =>
        have hkr : k < r.length := by omega
        have hne : seq (r[k]).Key (r[i]).Key = false := by
          cases hq : seq (r[k]).Key (r[i]).Key with
          | false => rfl
          | true =>
            have h3 := seq_iff.1 hq
            have h4 := List.pairwise_iff_getElem.1 hn k i (by simpa using hkr) (by simpa using hi) hlt
            rw [List.getElem_map, List.getElem_map] at h4
            exact absurd h3 h4
        rw [idx_lt r k hkr]
        generalize r[k] = c at hne
        obtain ⟨ck, _, _, ⟨_, _, _, ⟨_, _⟩, ⟨_, _⟩, _, _, _⟩⟩ := c
        simp only [cond_true, Option.bind_some] at hne ⊢
        rw [hne, cond_false]
        refine .inl ⟨_, rfl, ⟨k + 1, w64_succ (by omega), by omega⟩, ?_⟩
        rw [w64_succ (by omega)]
        simp only [Int.toNat_natCast]
        omega
    · have e1 : decide ((k : Int) < (i : Int)) = false := by simp; omega
      rw [e1]
      exact .inr ⟨_, rfl, _, rfl⟩) i 0 (by simp) ⟨0, rfl, by omega⟩
  exact ⟨x, by rw [h1, h2]⟩
theorem kids_fit {fu : Nat} {r : List Child} (hr : r.length ≤ 4096) (hg : ∀ c ∈ r, GoodKid c) (hn : (r.map Child.Key).Nodup) : ∃ x, wl (P3_s0 fu r) 0 = some (.inl x) := by
  obtain ⟨b, h1, x, h2⟩ := wl_rule (f := P3_s0 fu r) (fun a => ∃ k : Nat, a = (k : Int) ∧ k ≤ r.length) (fun a => r.length - a.toNat) (fun b => ∃ x, b = .inl x) (fun a hI => by
    obtain ⟨k, rfl, hk⟩ := hI
    unfold P3_s0
    dsimp only
    by_cases hlt : k < r.length
    · rw [lt_true hlt, cond_true, idx_lt r k hlt]
      obtain ⟨x, hx⟩ := inner_ok (fu := fu) hlt hr hn
      obtain ⟨g1, ⟨g2, g3⟩, g4⟩ := hg r[k] (List.getElem_mem hlt)
      generalize r[k] = c at hx g1 g2 g3 g4
      obtain ⟨ck, kd, nm, ⟨_, _, _, ⟨_, _⟩, ⟨_, _⟩, _, _, _⟩⟩ := c
      dsimp only at hx g1 g2 g3 g4
      have t2 : decide (0 ≤ (0 : Int)) = true := rfl
      have t3 : decide (0 ≤ (2 : Int)) = true := rfl
      have t2' : decide (0 ≤ (0 : Nat)) = true := rfl
      have t3' : decide (0 ≤ (2 : Nat)) = true := rfl
      have f1 : (kd == 0) = false := by rw [beq_eq_false_iff_ne]; omega
      have f2 : decide (9 < kd) = false := by simp; omega
      have hlast : (bif kd == 9 then some (!(seq nm ByteArray.empty)) else some false) = some false := by
        cases h9 : kd == 9 with
        | false => rfl
        | true =>
          have : kd = 9 := by simpa using h9
          rw [g4 this, seq_self]; rfl
      have hstep : ∀ X : Option Bool, X = some false → (X.bind fun (q : Bool) => match q with
          | i54 => bif i54 then (some (.inr (.inr (k : Int))) : Option (Int ⊕ (Int ⊕ Int))) else (wl (P3_s1 fu r (k : Int) ck) 0).bind fun q => match q with
            | .inl o65 => some (.inl (w64 ((k : Int) + 1)))
            | .inr o66 => some (.inr (.inr (k : Int)))) = some (.inl ((k + 1 : Nat) : Int)) := by
        rintro X rfl
        rw [Option.bind_some]
        dsimp only
        rw [cond_false, hx, Option.bind_some]
        dsimp only
        rw [w64_succ (by omega)]
      refine .inl ⟨((k + 1 : Nat) : Int), ?_, ⟨k + 1, rfl, by omega⟩, by simp only [Int.toNat_natCast]; omega⟩
      rw [Option.bind_some]
      dsimp only
      refine hstep _ ?_
      rcases g1 with ⟨t, rfl⟩ | ⟨t, rfl⟩
      · have z1 : decide (((iP ++ t).size : Int) < 2) = false := by
          rw [ByteArray.size_append, show iP.size = 2 from rfl]; simp; omega
        have z2 : decide ((2 : Int) ≤ ((iP ++ t).size : Int)) = true := by
          rw [ByteArray.size_append, show iP.size = 2 from rfl]; simp; omega
        have z3 : (iP ++ t).extract (Int.toNat 0) (Int.toNat 2) = iP := ByteArray.extract_append_eq_left rfl
        have z4 : seq iP (⟨#[107, 58]⟩ : ByteArray) = false := by
          cases h : seq iP (⟨#[107, 58]⟩ : ByteArray) with
          | false => rfl
          | true => exact absurd (congrArg ByteArray.data (seq_iff.1 h)) (by decide)
        have z5 : seq iP (⟨#[105, 58]⟩ : ByteArray) = true := seq_self _
        simp only [z1, z2, z3, z4, z5, t2, t3, t2', t3', Bool.not_false, Bool.not_true, cond_true, cond_false, f1, f2, Option.bind_some, hlast]
      · have z1 : decide (((kP ++ t).size : Int) < 2) = false := by
          rw [ByteArray.size_append, show kP.size = 2 from rfl]; simp; omega
        have z2 : decide ((2 : Int) ≤ ((kP ++ t).size : Int)) = true := by
          rw [ByteArray.size_append, show kP.size = 2 from rfl]; simp; omega
        have z3 : (kP ++ t).extract (Int.toNat 0) (Int.toNat 2) = kP := ByteArray.extract_append_eq_left rfl
        have z4 : seq kP (⟨#[107, 58]⟩ : ByteArray) = true := seq_self _
        simp only [z1, z2, z3, z4, t2, t3, t2', t3', Bool.not_false, Bool.not_true, cond_true, cond_false, f1, f2, Option.bind_some, hlast]
    · have hkl : k = r.length := by omega
      subst hkl
      rw [lt_false]
      exact .inr ⟨_, rfl, _, rfl⟩) r.length 0 (by simp) ⟨0, rfl, by omega⟩
  exact ⟨x, by rw [h1, h2]⟩
theorem unlike_true (l : List Value) (x : Option (List Value)) (h1 : l.length * 112 ≤ reachBytes) (h2 : ∀ v ∈ l, OKV v) (h3 : (flL l).length ≤ 1048576) : ∃ fu, P3 fu ⟨l, x⟩ = some true := by
  let N := SizeOf.sizeOf l
  have hs : ∀ v ∈ l, SizeOf.sizeOf v ≤ N := fun v hv => Nat.le_of_lt (List.sizeOf_lt_of_mem hv)
  generalize N = N at hs
  have hlen := len_room (by omega) h1
  obtain ⟨r4, hsz⟩ := sizes_told N (4 * N + 40) l x h1 (fun v hv => ⟨hs v hv, h2 v hv⟩) (by omega)
  obtain ⟨r6, hby⟩ := P7_def (4 * N + 40) [r4] (some []) (by simp)
  have q1 := kids_ok (N := N) (fu := 4 * N + 40) (x := x) (by omega) (fun v hv => kok_of N v (hs v hv) (h2 v hv)) (by omega)
  have hkl := (run_keeps (flL l) 0 [] [] rfl (by simp)).2
  obtain ⟨n', s', hK⟩ := run_inv (flL l) 0 [] [] (by simp; omega) ⟨fun c hc => (by cases hc), List.nodup_nil, fun c hc => (by cases hc)⟩
  change KInv n' (run (flL l) 0 [] []).2.2.1 s' at hK
  generalize (run (flL l) 0 [] []).2.2.1 = K at q1 hkl hK
  obtain ⟨y, hy⟩ := kids_fit (fu := 4 * N + 40) hkl hK.good hK.nodup
  have e : decide (4096 < ln K) = false := by rw [decide_eq_false_iff_not, ln_eq]; omega
  refine ⟨4 * N + 40, ?_⟩
  unfold P3 P6
  dsimp only
  simp only [Option.bind_some, Bool.not_true, Bool.not_false, cond_true, hsz, hby]
  cases r6 with
  | true => rfl
  | false => simp only [cond_false, q1, Option.bind_some, e, hy]
theorem one_bulk (v : Value) : 1 ≤ bulkL (e_Value v) := by
  obtain ⟨k, n, s, l, f, e, c, b⟩ := v
  simp only [e_Value, bulkL_append, bulkL, bulkD]
  omega
theorem fl_bulk : ∀ (N : Nat) (l : List Value), (∀ v ∈ l, SizeOf.sizeOf v ≤ N) → (flL l).length ≤ bulkRs (el_Value l) := by
  intro N
  induction N with
  | zero =>
    intro l h
    cases l with
    | nil => rw [flL]; simp
    | cons v r =>
      have := h v (List.mem_cons_self ..)
      obtain ⟨_, _, _, ⟨_, _⟩, ⟨_, _⟩, _, _, _⟩ := v
      simp only [Value.mk.sizeOf_spec] at this
      omega
  | succ N ih =>
    intro l
    induction l with
    | nil => intro h; rw [flL]; simp
    | cons v r ihr =>
      intro h
      have hr := ihr fun v hv => h v (List.mem_cons_of_mem _ hv)
      have hv := h v (List.mem_cons_self ..)
      rw [flL, el_Value, bulkRs, List.length_append]
      have : (fl v).length ≤ bulkL (e_Value v) := by
        have h1 := one_bulk v
        obtain ⟨k, n, s, ⟨l', x'⟩, ⟨f, y⟩, e, c, b⟩ := v
        rw [fl]
        cases k == 4 with
        | false => simpa using h1
        | true =>
          rw [cond_true, flS]
          have := ih l' fun u hu => by
            have := size_L (k := k) (n := n) (s := s) (key := c) (lx := x') (f := ⟨f, y⟩) (e := e) (hk := b) hu
            omega
          simp only [e_Value, bulkL_append, bulkL, bulkD, es_Value]
          omega
      omega
theorem law3 (ls : List (List D)) (h : WTs tab [22] ls) (hb : bulkRs ls ≤ 1048576) : call S 3 (argsPV tab [22] ls) [] = some (.d (.bool true), []) := by
  obtain ⟨l1, _, rfl, h1, rfl⟩ := h
  obtain ⟨r1, q1, e1, a1, b1, _⟩ := h1.slice_room ty_22
  obtain ⟨⟨l, x⟩, rfl⟩ := wt_22 h1
  have e1' : es_Value ⟨l, x⟩ = .sl r1 (some q1) := by simpa using e1
  simp only [bulkRs, bulkL, es_Value, bulkD] at hb
  simp only [es_Value, D.sl.injEq] at e1'
  obtain ⟨rfl, _⟩ := e1'
  have hf := fl_bulk (SizeOf.sizeOf l) l fun v hv => Nat.le_of_lt (List.sizeOf_lt_of_mem hv)
  rw [el_Value_map] at a1 b1
  simp only [List.length_map, List.mem_map, forall_exists_index, and_imp, forall_apply_eq_imp_iff₂, Nat.add_mul] at a1 b1
  obtain ⟨fu, hp⟩ := unlike_true l x (by omega) b1 (by omega)
  exact call_of (ok3 rfl rfl hp rfl [])
end Go.Proofs.YtjoinlfkebgfkaaDoor
