/- The words of a walk: loops as functions, what an evaluation comes to, one word after the other. -/
import Derived.Test.YtdmpjlpkmokllaaDoorXInv
import Derived.Test.YtdmpjlpkmokllaaDoorXX
namespace Go.X
open Go
set_option linter.unusedSectionVars false
set_option linter.unusedSimpArgs false
set_option linter.unusedVariables false
variable [Sites]

/-- A slice that is only read: its elements, and what lies behind them, if it is known. -/
structure Sl (α : Type) where
  l : List α
  x : Option (List α)
def idx {α : Type} (l : List α) (i : Int) : Option α := if 0 ≤ i then l[i.toNat]? else none
def w64 (n : Int) : Int := IntKind.wrap .i64 n
def w32 (n : Int) : Int := IntKind.wrap .i32 n
def w16 (n : Int) : Int := IntKind.wrap .i16 n
def w8 (n : Int) : Int := IntKind.wrap .i8 n
def u64 (n : Int) : Int := IntKind.wrap .u64 n
def u32 (n : Int) : Int := IntKind.wrap .u32 n
def u16 (n : Int) : Int := IntKind.wrap .u16 n
def u8 (n : Int) : Int := IntKind.wrap .u8 n
def seq (a b : ByteArray) : Bool := a.toList == b.toList
def slt (a b : ByteArray) : Bool := Op.bytesLess a.toList b.toList
def byteAt (s : ByteArray) (i : Int) : Int := ((s[i.toNat]?).map (·.toNat)).getD 0
def ln {α : Type} (l : List α) : Int := (l.length : Int)
theorem ln_set {α : Type} (l : List α) (n : Nat) (x : α) : ln (l.set n x) = ln l := by simp [ln]
def room (b n : Int) : Bool := decide (n * b ≤ 140737488355328)
def cut {α : Type} (l : List α) (a b : Int) : List α := (l.take b.toNat).drop a.toNat
theorem ln_cut0 {α : Type} {l : List α} {h : Int} (h1 : decide (0 ≤ h) = true) (h2 : decide (h ≤ ln l) = true) : h = ln (cut l 0 h) := by
  have h1 : 0 ≤ h := of_decide_eq_true h1
  have h2 : h ≤ (l.length : Int) := of_decide_eq_true h2
  show h = (((l.take h.toNat).drop 0).length : Int)
  rw [List.drop_zero, List.length_take]
  omega
theorem ln_cut0' {α : Type} {l : List α} {h n : Int} (h1 : decide (0 ≤ h) = true) (h3 : ln l = n) (h2 : decide (h ≤ n) = true) : h = ln (cut l 0 h) := by
  subst h3; exact ln_cut0 h1 h2
theorem ln_clear {α : Type} {l : List α} {o : Int} {z : α} (h1 : decide (0 ≤ o) = true) (h2 : decide (o ≤ ln l) = true) : ln (cut l 0 o ++ List.replicate (Int.toNat (ln l - o)) z) = ln l := by
  have h1 : 0 ≤ o := of_decide_eq_true h1
  have h2 : o ≤ (l.length : Int) := of_decide_eq_true h2
  show ((((l.take o.toNat).drop 0) ++ List.replicate (Int.toNat ((l.length : Int) - o)) z).length : Int) = (l.length : Int)
  rw [List.drop_zero, List.length_append, List.length_take, List.length_replicate]
  omega
def mget {K V : Type} [BEq K] : List (K × V) → K → Option V
  | [], _ => none
  | (k, v) :: r, x => if x == k then some v else mget r x
def mset {K V : Type} [BEq K] : List (K × V) → K → V → List (K × V)
  | [], x, y => [(x, y)]
  | (k, v) :: r, x, y => if x == k then (x, y) :: r else (k, v) :: mset r x y
def mrem {K V : Type} [BEq K] : List (K × V) → K → List (K × V)
  | [], _ => []
  | (k, v) :: r, x => if x == k then r else (k, v) :: mrem r x

/-- A loop: round after round, till it comes to its end. -/
def wl {α β : Type} (f : α → Option (α ⊕ β)) (a : α) : Option β := do
  match ← f a with
  | .inl a' => wl f a'
  | .inr b => some b
  partial_fixpoint

theorem up_row {n l i y : Nat} {k : Int} (h : y + n = l) : up n (.row l i k) = .row y i k := by
  subst h
  simp only [up, Go.X.sub]
  rw [show Nat.ble n (y + n) = true from Nat.ble_eq_true_of_le (Nat.le_add_left n y), Nat.add_sub_cancel]
  rfl
theorem up_ptr {n l i y o : Nat} (h : y + n = l) : up n (.ptr l i o) = .ptr y i o := by
  subst h
  simp only [up, Go.X.sub]
  rw [show Nat.ble n (y + n) = true from Nat.ble_eq_true_of_le (Nat.le_add_left n y), Nat.add_sub_cancel]
  rfl
theorem up_map {n l i y : Nat} (h : y + n = l) : up n (.map l i) = .map y i := by
  subst h
  simp only [up, Go.X.sub]
  rw [show Nat.ble n (y + n) = true from Nat.ble_eq_true_of_le (Nat.le_add_left n y), Nat.add_sub_cancel]
  rfl
theorem ups_cons {n : Nat} {v u : PV} {vs us : List PV} (h : up n v = u) (t : up.ups n vs = us) : up.ups n (v :: vs) = u :: us := by
  subst h t; rfl

/-- An evaluation comes to something of which this is so. -/
def Sat {R : Type} (x : Option R) (G : R → Prop) : Prop := ∃ r, x = some r ∧ G r
section
variable {R A : Type} {G : R → Prop}
theorem sat_pure {r : R} (h : G r) : Sat (some r) G := ⟨r, rfl, h⟩
theorem sat_bind {o : Option A} {v : A} {f : A → Option R} (h : o = some v) (h2 : Sat (f v) G) : Sat (o.bind f) G := by subst h; exact h2
theorem sat_call {o : Option A} {v : A} {f : A → Option R} (h : Sat o (fun q => q = v)) (h2 : Sat (f v) G) : Sat (o.bind f) G := by
  obtain ⟨_, rfl, rfl⟩ := h; exact h2
theorem sat_true {b : Bool} {x y : Option R} (h : b = true) (h2 : Sat x G) : Sat (bif b then x else y) G := by subst h; exact h2
theorem sat_false {b : Bool} {x y : Option R} (h : b = false) (h2 : Sat y G) : Sat (bif b then x else y) G := by subst h; exact h2
theorem sat_brt {b : Bool} {x y : Unit → Option R} (h : b = true) (h2 : Sat (x ()) G) : Sat (br b x y) G := by subst h; exact h2
theorem sat_brf {b : Bool} {x y : Unit → Option R} (h : b = false) (h2 : Sat (y ()) G) : Sat (br b x y) G := by subst h; exact h2
theorem bif_cases {b : Bool} {x y : Option R} {r : R} (h : (bif b then x else y) = some r) : (b = true ∧ x = some r) ∨ (b = false ∧ y = some r) := by
  cases b
  · exact .inr ⟨rfl, h⟩
  · exact .inl ⟨rfl, h⟩
theorem bif_some {b : Bool} {x : Option R} {r : R} (h : (bif b then x else none) = some r) : b = true ∧ x = some r := by
  cases b
  · cases h
  · exact ⟨rfl, h⟩
end
section
variable {c : CF} {Ω : Om} (hΩ : real c = Ω) {R A : Type} {G : R → Prop}
include hΩ
theorem sat_in {f : (A → Option R) → Option R} {k : A → Option R} (h : Sat (f k) G) : Sat (Ω.grp f k) G := by subst hΩ; exact h
theorem sat_grp {f : (A → Option R) → Option R} {k : A → Option R} (x : A) (h : ∀ k : A → Option R, Sat (k x) G → Sat (f k) G) (h2 : Sat (k x) G) : Sat (Ω.grp f k) G := by subst hΩ; exact h k h2
theorem sat_tick {f : Unit → Option R} (h : Sat (f ()) G) : Sat (Ω.tick f) G := by subst hΩ; exact h
theorem sat_join {f : (A → Option R) → Option R} {k : A → Option R} (x : A) (h : ∀ k : A → Option R, f k = k x) (h2 : Sat (k x) G) : Sat (Ω.grp f k) G := by subst hΩ; rw [real_grp, h]; exact h2
theorem sat_far {st : St} {l i off : Nat} {ty : Nat} {cs cs' : List PV} (h : look st l i = some (.box ty cs)) (hd : down.downs (l + 1) (cs.drop off) = cs') {f : List PV → Option R} (h2 : Sat (f cs') G) : Sat (Ω.farK st l i off f) G := by
  subst hΩ hd; simp only [real, h]; exact h2
theorem sat_putfar {st st' : St} {l i off : Nat} {vs : List PV} {ty : Nat} {cs cs' : List PV} (h : look st l i = some (.box ty cs)) (hs : setO st l i (.box ty cs') = st') (hv : cellsOk (up.ups (l + 1) vs) = true) (hc : Nat.ble (off + vs.length) cs.length = true)
    {f : St → Option R} (h2 : Sat (f st') G) (hn : cs.take off ++ up.ups (l + 1) vs ++ cs.drop (off + vs.length) = cs' := by first | rfl | ((try clear h); subst_vars; rfl)) : Sat (Ω.putFarK st l i off vs f) G := by
  subst hΩ hs hn; simp only [real, h, hv, hc, cond_true]; exact h2
theorem sat_putfar2 {st st' : St} {l i off : Nat} {vs us : List PV} {ty : Nat} {cs cs' : List PV} (h : look st l i = some (.box ty cs)) (hs : setO st l i (.box ty cs') = st') (hu : up.ups (l + 1) vs = us) (hv : cellsOk us = true) (hc : Nat.ble (off + vs.length) cs.length = true)
    {f : St → Option R} (h2 : Sat (f st') G) (hn : cs.take off ++ us ++ cs.drop (off + vs.length) = cs' := by first | rfl | ((try clear h); subst_vars; rfl)) : Sat (Ω.putFarK st l i off vs f) G := by
  subst hΩ hs hn hu; simp only [real, h, hv, hc, cond_true]; exact h2
theorem sat_mapfar {st : St} {l i : Nat} {kk : KK} {fl : Bool} {es : List (PV × PV)} (h : look st l i = some (.map kk fl es)) {f : KK → Bool → List (PV × PV) → Option R} (h2 : Sat (f kk fl es) G) : Sat (Ω.mapFarK st l i f) G := by
  subst hΩ; simp only [real, h]; exact h2
theorem sat_setfar {st st' : St} {l i : Nat} {o : Obj} (h : setO st l i o = st') {f : St → Option R} (h2 : Sat (f st') G) : Sat (Ω.setFarK st l i o f) G := by
  subst hΩ h; exact h2
theorem sat_addfar {st st' : St} {l n : Nat} {o : Obj} (hl : hasL st l = true) (hn : numO st l = n) (h : addO st l o = st') {f : Nat → St → Option R} (h2 : Sat (f n st') G) : Sat (Ω.addFarK st l o f) G := by
  subst hΩ h hn; simp only [real, hl, cond_true]; exact h2
theorem sat_addfar' {st : St} {l : Nat} {o : Obj} (hl : hasL st l = true) {f : Nat → St → Option R} (h2 : ∀ n st', numO st l = n → addO st l o = st' → Sat (f n st') G) : Sat (Ω.addFarK st l o f) G := by
  subst hΩ; simp only [real, hl, cond_true]; exact h2 _ _ rfl rfl
theorem sat_nilK {f : List (List D) → Option R} (h : Sat (f []) G) : Sat (Ω.nilK f) G := by subst hΩ; exact h
theorem sat_both {x y : Option R} {q : R} (h1 : Sat x (fun r => r = q)) (h2 : Sat y (fun r => r = q)) : Sat (Ω.both x y) (fun r => r = q) := by
  obtain ⟨_, e1, rfl⟩ := h1
  obtain ⟨_, e2, rfl⟩ := h2
  subst hΩ
  exact ⟨_, agree_mk e1 e2, rfl⟩
theorem sat_rowfar {st : St} {l i : Nat} {ty sz : Nat} {rows : List (List D)} {mt : Bool} {cap : Option Int} (h : look st l i = some (.row ty sz rows mt cap)) {f : Nat → Nat → List (List D) → Bool → Option Int → Option R} (h2 : Sat (f ty sz rows mt cap) G) : Sat (Ω.rowFarK st l i f) G := by
  subst hΩ
  show Sat (match look st l i with | some (.row ty sz rows mt cap) => f ty sz rows mt cap | _ => none) G
  rw [h]; exact h2
theorem sat_loopfar {st : St} {l i site : Nat} {ρ : List (Nat × PV)} {p : Option Ex} (h : look st l i = some (.loop site ρ p)) {f : Nat → List (Nat × PV) → Option Ex → Option R} (h2 : Sat (f site ρ p) G) : Sat (Ω.loopFarK st l i f) G := by
  subst hΩ; simp only [real, h]; exact h2
theorem sat_round {Γ : Tab} {an : Ann} {ps : List Nat} {xa xb : XC} {st : St} {l i site : Nat} {ρ ρ' : List (Nat × PV)} {args : List PV} {G : PV × St → Prop} (h : look st l i = some (.loop site ρ none)) (hd : downE (l + 1) ρ = ρ')
    (h2 : Sat (match bindPs ps args ρ' with | some ρ1 => execX Ω Γ an xa ρ1 ([] :: st) (roundC Ω Γ an xb l i site) | none => none) G) : Sat (roundX Ω Γ an ps xa xb (.yld l i :: args) st) G := by
  subst hΩ hd
  unfold roundX
  simp only [real, h]
  exact h2
theorem same_ok (st : St) : Ω.same st st = true := by subst hΩ; simp [real]
theorem ieq_ok (n : Int) : Ω.ieq n n = true := by subst hΩ; simp [real]
end

/-- Rows, as they are written: each element by its cells. -/
def RowsOf {α : Type} (L : List α → List (List D)) (X : Option (List α) → Option (List (List D))) (e : α → List D) (sz : Nat) : Prop :=
  (∀ l, L l = l.map e) ∧ (∀ x, X x = x.map L) ∧ ∀ x, (e x).length = sz
section
variable {c : CF} {Ω : Om} (hΩ : real c = Ω) {R α : Type} {G : R → Prop} {L : List α → List (List D)} {X : Option (List α) → Option (List (List D))} {e : α → List D} {sz : Nat} (hL : RowsOf L X e sz)
include hΩ hL
theorem sat_len (l : List α) {rows : List (List D)} {f : Int → Option R} (h : ∀ n, ln l = n → Sat (f n) G) (hr : L l = rows := by first | rfl | ((try clear h); subst_vars; rfl)) : Sat (Ω.lenK rows f) G := by
  replace h := h _ rfl
  subst hΩ hr; rw [real_lenK, hL.1]; simpa [real, ln] using h
theorem fits_l (l : List α) {rows : List (List D)} (hr : L l = rows := by first | rfl | ((try clear h); subst_vars; rfl)) : Ω.fits sz rows none = true := by
  subst hΩ hr; simp [real, hL.1, hL.2.2]
theorem fits_x (l : List α) (x : Option (List α)) {rows : List (List D)} {ext : Option (List (List D))} (hr : L l = rows := by first | rfl | ((try clear h); subst_vars; rfl)) (hx : X x = ext := by first | rfl | ((try clear h); subst_vars; rfl)) : Ω.fits sz rows ext = true := by
  subst hΩ hr hx
  cases x <;> simp [real, hL.1, hL.2.1, hL.2.2]
theorem len_ok (l : List α) {rows : List (List D)} {n : Int} (hr : L l = rows := by first | rfl | ((try clear h); subst_vars; rfl) | ((try clear h); subst_vars; simp only [ln_set]) | assumption | ((try clear h); subst_vars; assumption)) (hn : ln l = n := by first | rfl | ((try clear h); subst_vars; rfl) | ((try clear h); subst_vars; simp only [ln_set]) | assumption | ((try clear h); subst_vars; assumption)) : Ω.ieq (Ω.len rows) n = true := by
  subst hΩ hr hn; simp [real, hL.1, ln]
theorem len_zero {l : List α} {b : Bool} (h : (ln l == 0) = b) {rows : List (List D)} (hr : L l = rows := by first | rfl | ((try clear h); subst_vars; rfl)) : Ω.ieq (Ω.len rows) 0 = b := by
  subst hΩ hr; rw [← h]; simp [real, hL.1, ln]
theorem nth_ok {l : List α} {i : Int} {x : α} (h : idx l i = some x) {rows : List (List D)} {j : Int} (hr : L l = rows := by first | rfl | ((try clear h); subst_vars; rfl)) (hj : i = j := by first | rfl | ((try clear h); subst_vars; rfl)) : Ω.nth rows j = some (e x) := by
  subst hΩ hr hj
  simp only [idx] at h
  simp only [real, hL.1]
  split at h
  · rename_i h0
    rw [if_pos h0, List.getElem?_map, h]; rfl
  · cases h
theorem sat_cat (l xs : List α) {rows rs : List (List D)} {f : List (List D) → Int → Option R} (h : ∀ l', l ++ xs = l' → ∀ n, ln l' = n → Sat (f (L l') n) G) (hr : L l = rows := by first | rfl | ((try clear h); subst_vars; rfl)) (he : L xs = rs := by first | rfl | ((try clear h); subst_vars; rfl)) : Sat (Ω.catK rows rs f) G := by
  replace h := h _ rfl _ rfl
  subst hΩ hr he; rw [real_catK]
  have h1 : (real c).cat (L l) (L xs) = L (l ++ xs) := by simp [real, hL.1]
  have h2 : (real c).len (L (l ++ xs)) = ln (l ++ xs) := by simp [real, hL.1, ln]
  rw [h1, h2]; exact h
theorem sat_set (l : List α) (i : Int) (x : α) {rows : List (List D)} {r : List D} {j : Int} {f : List (List D) → Option R} (h : ∀ l', l.set i.toNat x = l' → Sat (f (L l')) G) (hr : L l = rows := by first | rfl | ((try clear h); subst_vars; rfl)) (he : e x = r := by first | rfl | ((try clear h); subst_vars; rfl)) (hj : i = j := by first | rfl | ((try clear h); subst_vars; rfl)) : Sat (Ω.setK rows j r f) G := by
  replace h := h _ rfl
  subst hΩ hr he hj; rw [real_setK]
  have h1 : (real c).setN (L l) i (e x) = L (l.set i.toNat x) := by simp [real, hL.1, List.map_set]
  rw [h1]; exact h
theorem sat_cut (l : List α) (i j : Int) {rows : List (List D)} {i' j' : Int} {f : List (List D) → Option R} (h : ∀ l', cut l i j = l' → Sat (f (L l')) G) (hr : L l = rows := by first | rfl | ((try clear h); subst_vars; rfl)) (hi : i = i' := by first | rfl | ((try clear h); subst_vars; rfl)) (hj : j = j' := by first | rfl | ((try clear h); subst_vars; rfl)) : Sat (Ω.cutK rows i' j' f) G := by
  replace h := h _ rfl
  subst hΩ hr hi hj; rw [real_cutK]
  have h1 : (real c).cut (L l) i j = L (cut l i j) := by simp [real, hL.1, cut, List.map_take, List.map_drop]
  rw [h1]; exact h
theorem sat_fill (x : α) (n : Int) {r : List D} {m : Int} {f : List (List D) → Int → Option R} (h : ∀ l', List.replicate n.toNat x = l' → ∀ n, ln l' = n → Sat (f (L l') n) G) (he : e x = r := by first | rfl | ((try clear h); subst_vars; rfl)) (hm : n = m := by first | rfl | ((try clear h); subst_vars; rfl)) : Sat (Ω.fillK r m f) G := by
  replace h := h _ rfl _ rfl
  subst hΩ he hm; rw [real_fillK]
  have h1 : (real c).fill (e x) n = L (List.replicate n.toNat x) := by simp [real, hL.1]
  have h2 : (real c).len (L (List.replicate n.toNat x)) = ln (List.replicate n.toNat x) := by simp [real, hL.1, ln]
  rw [h1, h2]; exact h
theorem sat_nil {f : List (List D) → Option R} (h : ∀ l' : List α, [] = l' → Sat (f (L l')) G) : Sat (Ω.nilK f) G := by
  replace h := h _ rfl
  have h1 : L [] = [] := by rw [hL.1]; rfl
  rw [h1] at h; subst hΩ; exact h
end

/-- Maps, as they are written. -/
def MapsOf {K V : Type} [BEq K] (M : List (K × V) → List (PV × PV)) (ek : K → PV) (ev : V → PV) : Prop :=
  (∀ l, M l = l.map fun p => (ek p.1, ev p.2)) ∧ ∀ x y, keyEq (ek x) (ek y) = (x == y)
section
variable {c : CF} {Ω : Om} (hΩ : real c = Ω) {R K V : Type} [BEq K] {G : R → Prop} {M : List (K × V) → List (PV × PV)} {ek : K → PV} {ev : V → PV} (hM : MapsOf M ek ev)
include hΩ hM
theorem sat_empty {f : List (PV × PV) → Option R} (h : ∀ l' : List (K × V), [] = l' → Sat (f (M l')) G) : Sat (Ω.emptyK f) G := by
  replace h := h _ rfl
  have h1 : M [] = [] := by rw [hM.1]; rfl
  rw [h1] at h; subst hΩ; exact h
omit hΩ in
theorem mfind_ok (l : List (K × V)) (k : K) : mfind (M l) (ek k) = (mget l k).map ev := by
  rw [hM.1]
  induction l with
  | nil => rfl
  | cons p l ih =>
    simp only [List.map_cons, mfind, mget, hM.2]
    split <;> simp [*]
theorem sat_find_none {l : List (K × V)} {k : K} (h : mget l k = none) {es : List (PV × PV)} {k' : PV} {z : Option R} {f : PV → Option R} (h2 : Sat z G) (hl : M l = es := by first | rfl | ((try clear h); subst_vars; rfl)) (hk : ek k = k' := by first | rfl | ((try clear h); subst_vars; rfl)) : Sat (Ω.findK es k' z f) G := by
  subst hΩ hk hl; rw [real_findK]
  have : (real c).find (M l) (ek k) = none := by show mfind _ _ = _; rw [mfind_ok hM, h]; rfl
  rw [this]; exact h2
theorem sat_find_some {l : List (K × V)} {k : K} {v : V} (h : mget l k = some v) {es : List (PV × PV)} {k' : PV} {z : Option R} {f : PV → Option R} (h2 : Sat (f (ev v)) G) (hl : M l = es := by first | rfl | ((try clear h); subst_vars; rfl)) (hk : ek k = k' := by first | rfl | ((try clear h); subst_vars; rfl)) : Sat (Ω.findK es k' z f) G := by
  subst hΩ hk hl; rw [real_findK]
  have : (real c).find (M l) (ek k) = some (ev v) := by show mfind _ _ = _; rw [mfind_ok hM, h]; rfl
  rw [this]; exact h2
theorem sat_put (l : List (K × V)) (k : K) (v : V) {es : List (PV × PV)} {k' v' : PV} {f : List (PV × PV) → Option R} (h : ∀ l', mset l k v = l' → Sat (f (M l')) G) (hl : M l = es := by first | rfl | ((try clear h); subst_vars; rfl)) (hk : ek k = k' := by first | rfl | ((try clear h); subst_vars; rfl)) (hv : ev v = v' := by first | rfl | ((try clear h); subst_vars; rfl)) : Sat (Ω.putK es k' v' f) G := by
  replace h := h _ rfl
  subst hΩ hk hv hl; rw [real_putK]
  have : (real c).put (M l) (ek k) (ev v) = M (mset l k v) := by
    clear h
    show mput _ _ _ = _
    rw [hM.1, hM.1]
    induction l with
    | nil => rfl
    | cons p l ih =>
      simp only [List.map_cons, mput, mset, hM.2]
      split <;> simp [*]
  rw [this]; exact h
theorem sat_del (l : List (K × V)) (k : K) {es : List (PV × PV)} {k' : PV} {f : List (PV × PV) → Option R} (h : ∀ l', mrem l k = l' → Sat (f (M l')) G) (hl : M l = es := by first | rfl | ((try clear h); subst_vars; rfl)) (hk : ek k = k' := by first | rfl | ((try clear h); subst_vars; rfl)) : Sat (Ω.delK es k' f) G := by
  replace h := h _ rfl
  subst hΩ hk hl; rw [real_delK]
  have : (real c).del (M l) (ek k) = M (mrem l k) := by
    clear h
    show mdel _ _ = _
    rw [hM.1, hM.1]
    induction l with
    | nil => rfl
    | cons p l ih =>
      simp only [List.map_cons, mdel, mrem, hM.2]
      split <;> simp [*]
  rw [this]; exact h
theorem sat_mlen (l : List (K × V)) {es : List (PV × PV)} {f : Int → Option R} (h : ∀ n, ln l = n → Sat (f n) G) (hl : M l = es := by first | rfl | ((try clear h); subst_vars; rfl)) : Sat (Ω.mlenK es f) G := by
  replace h := h _ rfl
  subst hΩ hl; rw [real_mlenK]
  have : (real c).mlen (M l) = ln l := by simp [real, hM.1, ln]
  rw [this]; exact h
end

/-- What a round of the machine's loop is to a round of the function. -/
def Good {α β : Type} (n : Nat) (dom : List Nat) (mk : α → Env × St) (out : β → Ex × Env × St) (q : α ⊕ β) (r : Ex × Env × St) : Prop :=
  match q with
  | .inl a => r.1 = .normal ∧ keepOnly dom r.2.1 = (mk a).1 ∧ trim plains n (keepOnly dom r.2.1) r.2.2 = (mk a).2
  | .inr b => (∃ i, r.1 = .exit i) ∧ (r.1, keepOnly dom r.2.1, trim plains n (keepOnly dom r.2.1) r.2.2) = out b ∨ r.1 = .ret ∧ (r.1, keepOnly dom r.2.1, trim plains n (keepOnly dom r.2.1) r.2.2) = out b
theorem wl_iter {α β : Type} {f : α → Option (α ⊕ β)} {n : Nat} {dom : List Nat} {F : Env → St → Option (Ex × Env × St)} {mk : α → Env × St} {out : β → Ex × Env × St}
    (h : ∀ a q, f a = some q → Sat (F (mk a).1 (mk a).2) (Good n dom mk out q)) : ∀ a b, wl f a = some b → iter n dom F (mk a).1 (mk a).2 = some (out b) := by
  refine wl.partial_correctness f (fun a b => iter n dom F (mk a).1 (mk a).2 = some (out b)) ?_
  intro w ih a b hb
  simp only [Option.bind_eq_bind] at hb
  obtain ⟨q, hq, hb⟩ := Option.bind_eq_some_iff.1 hb
  obtain ⟨⟨e, ρ, st⟩, hr, hg⟩ := h a q hq
  rw [iter, hr]
  simp only [Option.bind_eq_bind, Option.bind_some]
  cases q with
  | inl a' =>
    obtain ⟨g1, g2, g3⟩ := hg
    subst g1
    have := ih a' b hb
    rw [← g2, ← g3] at this
    exact this
  | inr b' =>
    cases hb
    rcases hg with ⟨⟨i, g1⟩, g2⟩ | ⟨g1, g2⟩ <;> subst g1 <;> exact congrArg some g2
theorem sat_loop {c : CF} {Ω : Om} (hΩ : real c = Ω) {R α β : Type} {G : R → Prop} {f : α → Option (α ⊕ β)} {n : Nat} {dom : List Nat} {F : Env → St → Option (Ex × Env × St)} {ρ : Env} {st : St} {K : Ex × Env × St → Option R}
    (mk : α → Env × St) (out : β → Ex × Env × St) (a : α) {b : β} (hl : wl f a = some b) (h : ∀ a q, f a = some q → Sat (F (mk a).1 (mk a).2) (Good n dom mk out q)) (h2 : Sat (K (out b)) G) (hm : mk a = (ρ, st) := by first | rfl | ((try clear h); subst_vars; rfl) | ((try clear h); subst_vars; simp only [ln_set]) | assumption | ((try clear h); subst_vars; assumption)) :
    Sat ((Ω.iter n dom F ρ st).bind K) G := by
  subst hΩ
  have := wl_iter h a b hl
  rw [hm] at this
  refine sat_bind ?_ h2
  exact this
/-- A function's body. -/
theorem cf_body {S : Sys} {Ω : Om} (hΩ : real (call S) = Ω) {f : Nat} {fn : Func} {x : XC} {rs : List ResultVar} (h1 : S.foreign f = none) (h2 : S.fn f = some fn) (h4 : fn.body.map (strip (S.tab.ann f)) = some x) (h5 : fn.results.toList = rs) (h6 : (S.tab.ann f).arena = false) (h7 : siteB f = false) (args : List PV) (st : St) :
    Ω.cf f args st = takeK Ω (S.tab.ann f).take 0 (down.downs 1 args) ([] :: st) fun args st => execX Ω S.tab (S.tab.ann f) x (enter 0 args) st fun e ρ st => match e with
      | .exit _ => none
      | _ => leave Ω S.tab (S.tab.ann f).give rs ρ st := by
  subst hΩ
  refine Eq.trans ?_ ((body_strip (c := call S) (Γ := S.tab) h4 h5 args st).trans ?_)
  · show (bif siteB f then none else call S f args st) = _
    rw [h7]
    show call S f args st = _
    rw [call.eq_1]
    unfold step
    rw [h1, h2]
    dsimp only
    rw [h6]
  · rfl
theorem call_of {S : Sys} {f : Nat} {args : List PV} {st : St} {r : PV × St} (h : Sat ((real (call S)).cf f args st) (fun q => q = r)) : call S f args st = some r := by
  obtain ⟨_, h1, rfl⟩ := h
  change (bif siteB f then none else call S f args st) = some _ at h1
  cases hs : siteB f with
  | true => rw [hs] at h1; cases h1
  | false => rw [hs] at h1; exact h1
/-- A round. -/
theorem cf_round {S : Sys} {Ω : Om} (hΩ : real (call S) = Ω) {g own : Nat} {ps : List Nat} {xa xb : XC} (h1 : S.foreign g = none) (h2 : S.fn g = none) (h3 : (Sites.site g).map (fun q => (q.own, q.ps, strip (S.tab.ann q.own) q.asg, strip (S.tab.ann q.own) q.body)) = some (own, ps, xa, xb)) (args : List PV) (st : St) :
    Ω.rd g args st = roundX Ω S.tab (S.tab.ann own) ps xa xb args st := by
  subst hΩ
  obtain ⟨q, q1, q2⟩ := Option.map_eq_some_iff.1 h3
  simp only [Prod.mk.injEq] at q2
  obtain ⟨rfl, q3, q4, q5⟩ := q2
  refine Eq.trans ?_ (round_strip (c := call S) q3 q4 q5 args st)
  show call S g args st = _
  rw [call.eq_1]
  unfold step
  rw [h1, h2]
  simp only [q1]
/-- The body of a function behind whose frame lies another one. -/
theorem cf_arena {S : Sys} {Ω : Om} (hΩ : real (call S) = Ω) {f : Nat} {fn : Func} {x : XC} {rs : List ResultVar} (h1 : S.foreign f = none) (h2 : S.fn f = some fn) (h4 : fn.body.map (strip (S.tab.ann f)) = some x) (h5 : fn.results.toList = rs) (h6 : (S.tab.ann f).arena = true) (h7 : siteB f = false) {args : List PV} {st : St} {r : PV}
    (h : Sat (takeK Ω (S.tab.ann f).take 0 (down.downs 1 (down.downs 1 args)) ([] :: [] :: st) fun args st => execX Ω S.tab (S.tab.ann f) x (enter 0 args) st fun e ρ st => match e with
      | .exit _ => none
      | _ => leave Ω S.tab (S.tab.ann f).give rs ρ st) (fun q => ∃ r' fr, q = (r', fr :: st) ∧ up 1 r' = r)) : Sat (Ω.cf f args st) (fun q => q = (r, st)) := by
  subst hΩ
  obtain ⟨q, hq, r', fr, rfl, rfl⟩ := h
  have hb : body (real (call S)) S.tab (S.tab.ann f) fn (down.downs 1 args) ([] :: st) = some (r', fr :: st) := by
    refine (body_strip (c := call S) (Γ := S.tab) h4 h5 _ _).trans (Eq.trans ?_ hq)
    rfl
  refine ⟨_, ?_, rfl⟩
  show (bif siteB f then none else call S f args st) = _
  rw [h7]
  show call S f args st = _
  rw [call.eq_1]
  unfold step
  rw [h1, h2]
  dsimp only
  rw [h6]
  dsimp only
  rw [hb]
end Go.X
