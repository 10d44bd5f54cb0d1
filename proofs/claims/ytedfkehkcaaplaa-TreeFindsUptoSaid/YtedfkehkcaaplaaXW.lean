/- T -/
import Derived.Test.YtedfkehkcaaplaaXInv
import Derived.Test.YtedfkehkcaaplaaXX
namespace Go.X
open Go
set_option linter.unusedVariables false
variable [bY]
structure Sl (α : Type) where
 l : List α
 x : Option (List α)
def idx {α : Type} (l : List α) (i : Int) : Option α := if 0 ≤ i then l[i.toNat]? else none
def dS (n : Int) : Int := IntKind.wrap .i64 n
def u64 (n : Int) : Int := IntKind.wrap .u64 n
def u32 (n : Int) : Int := IntKind.wrap .u32 n
def u16 (n : Int) : Int := IntKind.wrap .u16 n
def u8 (n : Int) : Int := IntKind.wrap .u8 n
def seq (a b : ByteArray) : Bool := a.toList == b.toList
def slt (a b : ByteArray) : Bool := Op.bytesLess a.toList b.toList
def ln {α : Type} (l : List α) : Int := (l.length : Int)
theorem kQ {α : Type} (l : List α) (n : Nat) (x : α) : ln (l.set n x) = ln l := by simp [ln]
def room (b n : Int) : Bool := decide (n * b ≤ 140737488355328)
def cut {α : Type} (l : List α) (a b : Int) : List α := (l.take b.toNat).drop a.toNat
def uK {K V : Type} [BEq K] : List (K × V) → K → Option V
 | [], _ => none
 | (k, v) :: r, x => if x == k then some v else uK r x
def yP {K V : Type} [BEq K] : List (K × V) → K → V → List (K × V)
 | [], x, y => [(x, y)]
 | (k, v) :: r, x, y => if x == k then (x, y) :: r else (k, v) :: yP r x y
def vi (n : Int) : PV := .d (.int .i64 n)
def vb (b : Bool) : PV := .d (.bool b)
def nO : List Obj := []
def wl {α β : Type} (f : α → Option (α ⊕ β)) (a : α) : Option β := do
 match ← f a with
 | .inl a' => wl f a'
 | .inr b => some b
 partial_fixpoint
theorem zM {n l i y : Nat} {k : Int} (h : y + n = l) : up n (.row l i k) = .row y i k := by
 subst h
 simp only [up, Go.X.sub]
 rw [show Nat.ble n (y + n) = true from Nat.ble_eq_true_of_le (Nat.le_add_left n y), Nat.add_sub_cancel]
 rfl
theorem qV {n : Nat} {v u : PV} {vs us : List PV} (h : up n v = u) (t : up.ups n vs = us) : up.ups n (v :: vs) = u :: us := by
 subst h t; rfl
def Sat {R : Type} (x : Option R) (G : R → Prop) : Prop := ∃ r, x = some r ∧ G r
section
variable {R A : Type} {G : R → Prop}
theorem Ub {r : R} (h : G r) : Sat (some r) G := ⟨r, rfl, h⟩
theorem ay {o : Option A} {v : A} {f : A → Option R} (h : o = some v) (h2 : Sat (f v) G) : Sat (o.bind f) G := by subst h; exact h2
theorem bC {o : Option A} {v : A} {f : A → Option R} (h : Sat o (fun q => q = v)) (h2 : Sat (f v) G) : Sat (o.bind f) G := by
 obtain ⟨_, rfl, rfl⟩ := h; exact h2
theorem sat_true {b : Bool} {x y : Option R} (h : b = true) (h2 : Sat x G) : Sat (bif b then x else y) G := by subst h; exact h2
theorem Rz {b : Bool} {x y : Option R} (h : b = false) (h2 : Sat y G) : Sat (bif b then x else y) G := by subst h; exact h2
theorem dV {b : Bool} {x y : Unit → Option R} (h : b = true) (h2 : Sat (x ()) G) : Sat (br b x y) G := by subst h; exact h2
theorem dP {b : Bool} {x y : Unit → Option R} (h : b = false) (h2 : Sat (y ()) G) : Sat (br b x y) G := by subst h; exact h2
theorem fJ {b b' : Bool} {x y : Option R} (hb : b' = true) (h2 : Sat x G) (e : b' = true → b = true := by first | exact id | ((try clear h); subst_vars; first | exact id | exact fun _ => rfl)) : Sat (bif b then x else y) G := sat_true (e hb) h2
theorem XY {b b' : Bool} {x y : Option R} (hb : b' = false) (h2 : Sat y G) (e : b' = false → b = false := by first | exact id | ((try clear h); subst_vars; first | exact id | exact fun _ => rfl)) : Sat (bif b then x else y) G := Rz (e hb) h2
theorem aQ {A B : Type} {o : Option A} {f : A → Option B} {r : B} (h : o.bind f = some r) : ∃ a, o = some a ∧ f a = some r := Option.bind_eq_some_iff.1 h
theorem fZ {A : Type} {a b : A} (h : some a = some b) : a = b := Option.some.inj h
theorem kk {P Q : Prop} (h0 : P) (e : P → Q := by first | exact id | (intro hk; simp only [kQ] at hk ⊢; exact hk)) : Q := e h0
theorem cv {x y : Option R} (h0 : Sat y G) (e : x = y := by conv => lhs; cbv) : Sat x G := by subst e; exact h0
theorem bQ {b b' : Bool} {x y : Unit → Option R} {A : Type} {x' y' : Option A} {r : A} (h1 : b' = true → x' = some r → Sat (x ()) G) (h2 : b' = false → y' = some r → Sat (y ()) G) (e : b' = b := by first | rfl | (subst_vars; rfl)) : (bif b' then x' else y') = some r → Sat (br b x y) G := by
 subst e
 cases b'
 ·exact h2 rfl
 ·exact h1 rfl
theorem fk {A : Type} {a r : A} {P Q : Prop} (h0 : some a = some r) (h1 : P) (e : P → Q := by obtain rfl := fZ h; subst_vars; first | exact id | (intro hk; simp only [kQ] at hk ⊢; exact hk)) : Q := e h1
theorem sp {A : Type} {a r : A} {x v : R} (h0 : some a = some r) (e : x = v := by obtain rfl := fZ h; subst_vars; rfl) : Sat (some x) (fun q => q = v) := ⟨_, rfl, e⟩
theorem s3 {r : R} (e : G r := by first | exact ⟨rfl, rfl, rfl⟩ | (refine ⟨rfl, ?_, ?_⟩ <;> first | rfl | (dsimp only; simp only [kQ]; rfl))) : Sat (some r) G := ⟨r, rfl, e⟩
theorem sL {r : R} (e : G r := by first | exact .inl ⟨⟨_, rfl⟩, rfl⟩ | (refine .inl ⟨⟨_, rfl⟩, ?_⟩; dsimp only; simp only [kQ]; rfl)) : Sat (some r) G := ⟨r, rfl, e⟩
theorem sR {r : R} (e : G r := by first | exact .inr ⟨rfl, rfl⟩ | (refine .inr ⟨rfl, ?_⟩; dsimp only; simp only [kQ]; rfl)) : Sat (some r) G := ⟨r, rfl, e⟩
theorem RA {b : Bool} {x y : Option R} {r : R} (h : (bif b then x else y) = some r) : (b = true ∧ x = some r) ∨ (b = false ∧ y = some r) := by
 cases b
 ·exact .inr ⟨rfl, h⟩
 ·exact .inl ⟨rfl, h⟩
theorem yQ {b : Bool} {x y : Option R} {r : R} (h : (bif b then x else y) = some r) : (b = true ∧ x = some r) ∨ (b = false ∧ y = some r) := RA h
theorem dZ {b : Bool} {x : Option R} {r : R} (h : (bif b then x else none) = some r) : b = true ∧ x = some r := by
 cases b
 ·cases h
 ·exact ⟨rfl, h⟩
end
section
variable {c : CF} {Ω : Om} (hΩ : real c = Ω) {R A : Type} {G : R → Prop}
include hΩ
theorem aN {f : (A → Option R) → Option R} {k : A → Option R} (h : Sat (f k) G) : Sat (Ω.Xi f k) G := by subst hΩ; exact h
theorem aH {f : (A → Option R) → Option R} {k : A → Option R} (x : A) (h : ∀ k : A → Option R, Sat (k x) G → Sat (f k) G) (h2 : Sat (k x) G) : Sat (Ω.Xi f k) G := by subst hΩ; exact h k h2
theorem ah {f : Unit → Option R} (h : Sat (f ()) G) : Sat (Ω.tick f) G := by subst hΩ; exact h
theorem pY {st : St} {l i off : Nat} {ty : Nat} {cs cs' : List PV} (h : look st l i = some (.box ty cs)) (hd : down.fA (l + 1) (cs.drop off) = cs') {f : List PV → Option R} (h2 : Sat (f cs') G) : Sat (Ω.aby st l i off f) G := by
 subst hΩ hd; simp only [real, h]; exact h2
theorem Dm {st st' : St} {l i off : Nat} {vs : List PV} {ty : Nat} {cs cs' : List PV} (h : look st l i = some (.box ty cs)) (hs : bJ st l i (.box ty cs') = st') (hv : bU (up.ups (l + 1) vs) = true) (hc : Nat.ble (off + vs.length) cs.length = true)
  {f : St → Option R} (h2 : Sat (f st') G) (hn : cs.take off ++ up.ups (l + 1) vs ++ cs.drop (off + vs.length) = cs' := by first | rfl | ((try clear h); subst_vars; rfl)) : Sat (Ω.Br st l i off vs f) G := by
 subst hΩ hs hn; simp only [real, h, hv, hc, cond_true]; exact h2
theorem lq {st st' : St} {l i off : Nat} {vs us : List PV} {ty : Nat} {cs cs' : List PV} (h : look st l i = some (.box ty cs)) (hs : bJ st l i (.box ty cs') = st') (hu : up.ups (l + 1) vs = us) (hv : bU us = true) (hc : Nat.ble (off + vs.length) cs.length = true)
  {f : St → Option R} (h2 : Sat (f st') G) (hn : cs.take off ++ us ++ cs.drop (off + vs.length) = cs' := by first | rfl | ((try clear h); subst_vars; rfl)) : Sat (Ω.Br st l i off vs f) G := by
 subst hΩ hs hn hu; simp only [real, h, hv, hc, cond_true]; exact h2
theorem Dn {st : St} {l i : Nat} {kk : KK} {fl : Bool} {es : List (PV × PV)} (h : look st l i = some (.map kk fl es)) {f : KK → Bool → List (PV × PV) → Option R} (h2 : Sat (f kk fl es) G) : Sat (Ω.vE st l i f) G := by
 subst hΩ; simp only [real, h]; exact h2
theorem eu {st st' : St} {l i : Nat} {o : Obj} (h : bJ st l i o = st') {f : St → Option R} (h2 : Sat (f st') G) : Sat (Ω.kG st l i o f) G := by
 subst hΩ h; exact h2
theorem bN {st : St} {l : Nat} {o : Obj} (hl : fQ st l = true) {f : Nat → St → Option R} (h2 : ∀ n st', dD st l = n → iQ st l o = st' → Sat (f n st') G) : Sat (Ω.vF st l o f) G := by
 subst hΩ; simp only [real, hl, cond_true]; exact h2 _ _ rfl rfl
theorem nG {x y : Option R} {q : R} (h1 : Sat x (fun r => r = q)) (h2 : Sat y (fun r => r = q)) : Sat (Ω.both x y) (fun r => r = q) := by
 obtain ⟨_, e1, rfl⟩ := h1
 obtain ⟨_, e2, rfl⟩ := h2
 subst hΩ
 exact ⟨_, oD e1 e2, rfl⟩
theorem BG {x y z : Option R} (hz : Sat z G) (h1 : ∀ G' : R → Prop, Sat z G' → Sat x G') (h2 : ∀ G' : R → Prop, Sat z G' → Sat y G') : Sat (Ω.both x y) G := by
 obtain ⟨q, e, hq⟩ := hz
 obtain ⟨q1, e1, j1⟩ := h1 (fun r => r = q) ⟨q, e, rfl⟩
 obtain ⟨q2, e2, j2⟩ := h2 (fun r => r = q) ⟨q, e, rfl⟩
 rw [j1] at e1
 rw [j2] at e2
 subst hΩ
 exact ⟨_, oD e1 e2, hq⟩
theorem gD {st : St} {l i : Nat} {ty sz : Nat} {rows : List (List D)} {mt : Bool} {cap : Option Int} (h : look st l i = some (.row ty sz rows mt cap)) {f : Nat → Nat → List (List D) → Bool → Option Int → Option R} (h2 : Sat (f ty sz rows mt cap) G) : Sat (Ω.pI st l i f) G := by
 subst hΩ
 show Sat (match look st l i with | some (.row ty sz rows mt cap) => f ty sz rows mt cap | _ => none) G
 rw [h]; exact h2
theorem gU {st : St} {l i site : Nat} {ρ : List (Nat × PV)} {p : Option Ex} (h : look st l i = some (.loop site ρ p)) {f : Nat → List (Nat × PV) → Option Ex → Option R} (h2 : Sat (f site ρ p) G) : Sat (Ω.ni st l i f) G := by
 subst hΩ; simp only [real, h]; exact h2
theorem zN {Γ : Tab} {an : iG} {ps : List Nat} {xa xb : XC} {st : St} {l i site : Nat} {ρ ρ' : List (Nat × PV)} {args : List PV} {G : PV × St → Prop} (h : look st l i = some (.loop site ρ none)) (hd : nY (l + 1) ρ = ρ')
  (h2 : Sat (match jX ps args ρ' with | some ρ1 => gu Ω Γ an xa ρ1 ([] :: st) (Nt Ω Γ an xb l i site) | none => none) G) : Sat (Cu Ω Γ an ps xa xb (.jv l i :: args) st) G := by
 subst hΩ hd
 unfold Cu
 simp only [real, h]
 exact h2
theorem dL (st : St) : Ω.same st st = true := by subst hΩ; simp [real]
theorem gX (n : Int) : Ω.ieq n n = true := by subst hΩ; simp [real]
end
def nM {α : Type} (L : List α → List (List D)) (X : Option (List α) → Option (List (List D))) (e : α → List D) (sz : Nat) : Prop :=
 (∀ l, L l = l.map e) ∧ (∀ x, X x = x.map L) ∧ ∀ x, (e x).length = sz
section
variable {c : CF} {Ω : Om} (hΩ : real c = Ω) {R α : Type} {G : R → Prop} {L : List α → List (List D)} {X : Option (List α) → Option (List (List D))} {e : α → List D} {sz : Nat} (hL : nM L X e sz)
include hΩ hL
theorem aP (l : List α) {rows : List (List D)} {f : Int → Option R} (h : ∀ n, ln l = n → Sat (f n) G) (hr : L l = rows := by first | rfl | ((try clear h); subst_vars; rfl)) : Sat (Ω.MW rows f) G := by
 replace h := h _ rfl
 subst hΩ hr; rw [ji, hL.1]; simpa [real, ln] using h
theorem bA (l : List α) {rows : List (List D)} (hr : L l = rows := by first | rfl | ((try clear h); subst_vars; rfl)) : Ω.fits sz rows none = true := by
 subst hΩ hr; simp [real, hL.1, hL.2.2]
theorem II (l : List α) (x : Option (List α)) {rows : List (List D)} {ext : Option (List (List D))} (hr : L l = rows := by first | rfl | ((try clear h); subst_vars; rfl)) (hx : X x = ext := by first | rfl | ((try clear h); subst_vars; rfl)) : Ω.fits sz rows ext = true := by
 subst hΩ hr hx
 cases x <;> simp [real, hL.1, hL.2.1, hL.2.2]
theorem bB (l : List α) {rows : List (List D)} {n : Int} (hr : L l = rows := by first | rfl | ((try clear h); subst_vars; rfl) | ((try clear h); subst_vars; simp only [kQ]) | assumption | ((try clear h); subst_vars; assumption)) (hn : ln l = n := by first | rfl | ((try clear h); subst_vars; rfl) | ((try clear h); subst_vars; simp only [kQ]) | assumption | ((try clear h); subst_vars; assumption)) : Ω.ieq (Ω.len rows) n = true := by
 subst hΩ hr hn; simp [real, hL.1, ln]
theorem aU {l : List α} {b : Bool} (h : (ln l == 0) = b) {rows : List (List D)} (hr : L l = rows := by first | rfl | ((try clear h); subst_vars; rfl)) : Ω.ieq (Ω.len rows) 0 = b := by
 subst hΩ hr; rw [← h]; simp [real, hL.1, ln]
theorem aW {l : List α} {i : Int} {x : α} (h : idx l i = some x) {rows : List (List D)} {j : Int} (hr : L l = rows := by first | rfl | ((try clear h); subst_vars; rfl)) (hj : i = j := by first | rfl | ((try clear h); subst_vars; rfl)) : Ω.nth rows j = some (e x) := by
 subst hΩ hr hj
 simp only [idx] at h
 simp only [real, hL.1]
 split at h
 ·rename_i h0
  rw [if_pos h0, List.getElem?_map, h]; rfl
 ·cases h
theorem fK (l xs : List α) {rows rs : List (List D)} {f : List (List D) → Int → Option R} (h : ∀ l', l ++ xs = l' → ∀ n, ln l' = n → Sat (f (L l') n) G) (hr : L l = rows := by first | rfl | ((try clear h); subst_vars; rfl)) (he : L xs = rs := by first | rfl | ((try clear h); subst_vars; rfl)) : Sat (Ω.BU rows rs f) G := by
 replace h := h _ rfl _ rfl
 subst hΩ hr he; rw [jk]
 have h1 : (real c).cat (L l) (L xs) = L (l ++ xs) := by simp [real, hL.1]
 have h2 : (real c).len (L (l ++ xs)) = ln (l ++ xs) := by simp [real, hL.1, ln]
 rw [h1, h2]; exact h
theorem jP (l : List α) (i : Int) (x : α) {rows : List (List D)} {r : List D} {j : Int} {f : List (List D) → Option R} (h : ∀ l', l.set i.toNat x = l' → Sat (f (L l')) G) (hr : L l = rows := by first | rfl | ((try clear h); subst_vars; rfl)) (he : e x = r := by first | rfl | ((try clear h); subst_vars; rfl)) (hj : i = j := by first | rfl | ((try clear h); subst_vars; rfl)) : Sat (Ω.Sz rows j r f) G := by
 replace h := h _ rfl
 subst hΩ hr he hj; rw [vJ]
 have h1 : (real c).SA (L l) i (e x) = L (l.set i.toNat x) := by simp [real, hL.1, List.map_set]
 rw [h1]; exact h
theorem dA {f : List (List D) → Option R} (h : ∀ l' : List α, [] = l' → Sat (f (L l')) G) : Sat (Ω.QT f) G := by
 replace h := h _ rfl
 have h1 : L [] = [] := by rw [hL.1]; rfl
 rw [h1] at h; subst hΩ; exact h
end
def Oe {K V : Type} [BEq K] (M : List (K × V) → List (PV × PV)) (ek : K → PV) (ev : V → PV) : Prop :=
 (∀ l, M l = l.map fun p => (ek p.1, ev p.2)) ∧ ∀ x y, tT (ek x) (ek y) = (x == y)
section
variable {c : CF} {Ω : Om} (hΩ : real c = Ω) {R K V : Type} [BEq K] {G : R → Prop} {M : List (K × V) → List (PV × PV)} {ek : K → PV} {ev : V → PV} (hM : Oe M ek ev)
include hΩ hM
theorem sat_empty {f : List (PV × PV) → Option R} (h : ∀ l' : List (K × V), [] = l' → Sat (f (M l')) G) : Sat (Ω.BZ f) G := by
 replace h := h _ rfl
 have h1 : M [] = [] := by rw [hM.1]; rfl
 rw [h1] at h; subst hΩ; exact h
omit hΩ in
theorem Lb (l : List (K × V)) (k : K) : sW (M l) (ek k) = (uK l k).map ev := by
 rw [hM.1]
 induction l with
 | nil => rfl
 | cons p l ih =>
  simp only [List.map_cons, sW, uK, hM.2]
  split <;> simp [*]
theorem EY {l : List (K × V)} {k : K} (h : uK l k = none) {es : List (PV × PV)} {k' : PV} {z : Option R} {f : PV → Option R} (h2 : Sat z G) (hl : M l = es := by first | rfl | ((try clear h); subst_vars; rfl)) (hk : ek k = k' := by first | rfl | ((try clear h); subst_vars; rfl)) : Sat (Ω.Fh es k' z f) G := by
 subst hΩ hk hl; rw [mP]
 have : (real c).find (M l) (ek k) = none := by show sW _ _ = _; rw [Lb hM, h]; rfl
 rw [this]; exact h2
theorem EZ {l : List (K × V)} {k : K} {v : V} (h : uK l k = some v) {es : List (PV × PV)} {k' : PV} {z : Option R} {f : PV → Option R} (h2 : Sat (f (ev v)) G) (hl : M l = es := by first | rfl | ((try clear h); subst_vars; rfl)) (hk : ek k = k' := by first | rfl | ((try clear h); subst_vars; rfl)) : Sat (Ω.Fh es k' z f) G := by
 subst hΩ hk hl; rw [mP]
 have : (real c).find (M l) (ek k) = some (ev v) := by show sW _ _ = _; rw [Lb hM, h]; rfl
 rw [this]; exact h2
theorem PK (l : List (K × V)) (k : K) (v : V) {es : List (PV × PV)} {k' v' : PV} {f : List (PV × PV) → Option R} (h : ∀ l', yP l k v = l' → Sat (f (M l')) G) (hl : M l = es := by first | rfl | ((try clear h); subst_vars; rfl)) (hk : ek k = k' := by first | rfl | ((try clear h); subst_vars; rfl)) (hv : ev v = v' := by first | rfl | ((try clear h); subst_vars; rfl)) : Sat (Ω.SB es k' v' f) G := by
 replace h := h _ rfl
 subst hΩ hk hv hl; rw [zn]
 have : (real c).put (M l) (ek k) (ev v) = M (yP l k v) := by
  clear h
  show tV _ _ _ = _
  rw [hM.1, hM.1]
  induction l with
  | nil => rfl
  | cons p l ih =>
   simp only [List.map_cons, tV, yP, hM.2]
   split <;> simp [*]
 rw [this]; exact h
theorem Uc (l : List (K × V)) {es : List (PV × PV)} {f : Int → Option R} (h : ∀ n, ln l = n → Sat (f n) G) (hl : M l = es := by first | rfl | ((try clear h); subst_vars; rfl)) : Sat (Ω.Fj es f) G := by
 replace h := h _ rfl
 subst hΩ hl; rw [oo]
 have : (real c).abx (M l) = ln l := by simp [real, hM.1, ln]
 rw [this]; exact h
end
def Good {α β : Type} (n : Nat) (dom : List Nat) (mk : α → Env × St) (out : β → Ex × Env × St) (q : α ⊕ β) (r : Ex × Env × St) : Prop :=
 match q with
 | .inl a => r.1 = .normal ∧ aB dom r.2.1 = (mk a).1 ∧ trim fF n (aB dom r.2.1) r.2.2 = (mk a).2
 | .inr b => (∃ i, r.1 = .exit i) ∧ (r.1, aB dom r.2.1, trim fF n (aB dom r.2.1) r.2.2) = out b ∨ r.1 = .ret ∧ (r.1, aB dom r.2.1, trim fF n (aB dom r.2.1) r.2.2) = out b
theorem XZ {α β : Type} {f : α → Option (α ⊕ β)} {n : Nat} {dom : List Nat} {F : Env → St → Option (Ex × Env × St)} {mk : α → Env × St} {out : β → Ex × Env × St}
  (h : ∀ a q, f a = some q → Sat (F (mk a).1 (mk a).2) (Good n dom mk out q)) : ∀ a b, wl f a = some b → iter n dom F (mk a).1 (mk a).2 = some (out b) := by
 refine wl.partial_correctness f (fun a b => iter n dom F (mk a).1 (mk a).2 = some (out b)) ?_
 intro w ih a b hb
 simp only [Option.bind_eq_bind] at hb
 obtain ⟨q, hq, hb⟩ := Option.bind_eq_some_iff.1 hb
 obtain ⟨⟨e, ρ, st⟩, hr, hg⟩ := h a q hq
 rw [iter, hr]
 simp only [Option.bind_eq_bind, Option.bind_some]
 cases q with
 | inl a' =>
  obtain ⟨g1, g2, g3⟩ := hg
  subst g1
  have := ih a' b hb
  rw [← g2, ← g3] at this
  exact this
 | inr b' =>
  cases hb
  rcases hg with ⟨⟨i, g1⟩, g2⟩ | ⟨g1, g2⟩ <;> subst g1 <;> exact congrArg some g2
theorem bK {c : CF} {Ω : Om} (hΩ : real c = Ω) {R α β : Type} {G : R → Prop} {f : α → Option (α ⊕ β)} {n : Nat} {dom : List Nat} {F : Env → St → Option (Ex × Env × St)} {ρ : Env} {st : St} {K : Ex × Env × St → Option R}
  (mk : α → Env × St) (out : β → Ex × Env × St) (a : α) {b : β} (hl : wl f a = some b) (h : ∀ a q, f a = some q → Sat (F (mk a).1 (mk a).2) (Good n dom mk out q)) (h2 : Sat (K (out b)) G) (hm : mk a = (ρ, st) := by first | rfl | ((try clear h); subst_vars; rfl) | ((try clear h); subst_vars; simp only [kQ]) | assumption | ((try clear h); subst_vars; assumption)) :
  Sat ((Ω.iter n dom F ρ st).bind K) G := by
 subst hΩ
 have := XZ h a b hl
 rw [hm] at this
 refine ay ?_ h2
 exact this
theorem kJ {S : Sys} {Ω : Om} (hΩ : real (call S) = Ω) {f : Nat} {fn : Func} {x : XC} {rs : List ResultVar} (h1 : S.foreign f = none) (h2 : S.fn f = some fn) (h4 : fn.body.map (strip (S.tab.ann f)) = some x) (h5 : fn.results.toList = rs) (h6 : (S.tab.ann f).arena = false) (h7 : iF f = false) (args : List PV) (st : St) :
  Ω.cf f args st = mI Ω (S.tab.ann f).take 0 (down.fA 1 args) ([] :: st) fun args st => gu Ω S.tab (S.tab.ann f) x (enter 0 args) st fun e ρ st => match e with
   | .exit _ => none
   | _ => leave Ω S.tab (S.tab.ann f).give rs ρ st := by
 subst hΩ
 refine Eq.trans ?_ ((Ct (c := call S) (Γ := S.tab) h4 h5 args st).trans ?_)
 ·show (bif iF f then none else call S f args st) = _
  rw [h7]
  show call S f args st = _
  rw [call.eq_1]
  unfold step
  rw [h1, h2]
  dsimp only
  rw [h6]
 ·rfl
theorem av {Ω : Om} {R : Type} {G : R → Prop} {f : Nat} {lst args : List PV} {st : St} {v : St → PV × St} {F : PV × St → Option R} (h1 : ∀ {args : List PV}, lst = args → ∀ st : St, Sat (Ω.cf f args st) (fun q => q = v st)) (h2 : Sat (F (v st)) G) (ha : lst = args := by (try clear h); subst_vars; rfl) : Sat ((Ω.cf f args st).bind F) G :=
 bC (h1 ha st) h2
theorem X0 {S : Sys} {f : Nat} {args : List PV} {st : St} {r : PV × St} (h : Sat ((real (call S)).cf f args st) (fun q => q = r)) : call S f args st = some r := by
 obtain ⟨_, h1, rfl⟩ := h
 change (bif iF f then none else call S f args st) = some _ at h1
 cases hs : iF f with
 | true => rw [hs] at h1; cases h1
 | false => rw [hs] at h1; exact h1
theorem Dp {S : Sys} {Ω : Om} (hΩ : real (call S) = Ω) {g own : Nat} {ps : List Nat} {xa xb : XC} (h1 : S.foreign g = none) (h2 : S.fn g = none) (h3 : (bY.site g).map (fun q => (q.own, q.ps, strip (S.tab.ann q.own) q.BS, strip (S.tab.ann q.own) q.body)) = some (own, ps, xa, xb)) (args : List PV) (st : St) :
  Ω.rd g args st = Cu Ω S.tab (S.tab.ann own) ps xa xb args st := by
 subst hΩ
 obtain ⟨q, q1, q2⟩ := Option.map_eq_some_iff.1 h3
 simp only [Prod.mk.injEq] at q2
 obtain ⟨rfl, q3, q4, q5⟩ := q2
 refine Eq.trans ?_ (KH (c := call S) q3 q4 q5 args st)
 show call S g args st = _
 rw [call.eq_1]
 unfold step
 rw [h1, h2]
 simp only [q1]
end Go.X
