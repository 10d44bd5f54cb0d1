/- The words of a walk: loops as functions, what an evaluation comes to, one word after the other. -/
import Derived.Test.YtipkggkbldgmjaaGreatXInv
import Derived.Test.YtipkggkbldgmjaaGreatXX
namespace Go.X
open Go
set_option linter.unusedSectionVars false
set_option linter.unusedSimpArgs false
set_option linter.unusedVariables false
variable [eY]
structure Sl (α : Type) where
 l : List α
 x : Option (List α)
def idx {α : Type} (l : List α) (i : Int) : Option α := if 0 ≤ i then l[i.toNat]? else none
def fq (n : Int) : Int := IntKind.wrap .i64 n
def u64 (n : Int) : Int := IntKind.wrap .u64 n
def u32 (n : Int) : Int := IntKind.wrap .u32 n
def u16 (n : Int) : Int := IntKind.wrap .u16 n
def u8 (n : Int) : Int := IntKind.wrap .u8 n
def seq (a b : ByteArray) : Bool := a.toList == b.toList
def slt (a b : ByteArray) : Bool := Op.bytesLess a.toList b.toList
def ln {α : Type} (l : List α) : Int := (l.length : Int)
theorem wM {α : Type} (l : List α) (n : Nat) (x : α) : ln (l.set n x) = ln l := by simp [ln]
def room (b n : Int) : Bool := decide (n * b ≤ 140737488355328)
def cut {α : Type} (l : List α) (a b : Int) : List α := (l.take b.toNat).drop a.toNat
def vi (n : Int) : PV := .d (.int .i64 n)
def vb (b : Bool) : PV := .d (.bool b)
def vS (s : ByteArray) : PV := .d (.str s)
def nO : List Obj := []
def wl {α β : Type} (f : α → Option (α ⊕ β)) (a : α) : Option β := do
 match ← f a with
 | .inl a' => wl f a'
 | .inr b => some b
 partial_fixpoint
def Sat {R : Type} (x : Option R) (G : R → Prop) : Prop := ∃ r, x = some r ∧ G r
section
variable {R A : Type} {G : R → Prop}
theorem aM {o : Option A} {v : A} {f : A → Option R} (h : o = some v) (h2 : Sat (f v) G) : Sat (o.bind f) G := by subst h; exact h2
theorem gW {o : Option A} {v : A} {f : A → Option R} (h : Sat o (fun q => q = v)) (h2 : Sat (f v) G) : Sat (o.bind f) G := by
 obtain ⟨_, rfl, rfl⟩ := h; exact h2
theorem sat_true {b : Bool} {x y : Option R} (h : b = true) (h2 : Sat x G) : Sat (bif b then x else y) G := by subst h; exact h2
theorem yM {b : Bool} {x y : Unit → Option R} (h : b = true) (h2 : Sat (x ()) G) : Sat (br b x y) G := by subst h; exact h2
theorem iH {b : Bool} {x y : Unit → Option R} (h : b = false) (h2 : Sat (y ()) G) : Sat (br b x y) G := by subst h; exact h2
theorem yN {b b' : Bool} {x y : Unit → Option R} (hb : b' = false) (h2 : Sat (y ()) G) (e : b' = false → b = false := by first | exact id | ((try clear h); subst_vars; first | exact id | exact fun _ => rfl)) : Sat (br b x y) G := iH (e hb) h2
theorem aP {b b' : Bool} {x y : Option R} (hb : b' = true) (h2 : Sat x G) (e : b' = true → b = true := by first | exact id | ((try clear h); subst_vars; first | exact id | exact fun _ => rfl)) : Sat (bif b then x else y) G := sat_true (e hb) h2
theorem aW {A B : Type} {o : Option A} {f : A → Option B} {r : B} (h : o.bind f = some r) : ∃ a, o = some a ∧ f a = some r := Option.bind_eq_some_iff.1 h
theorem fV {A : Type} {a b : A} (h : some a = some b) : a = b := Option.some.inj h
theorem kk {P Q : Prop} (h0 : P) (e : P → Q := by first | exact id | (intro hk; simp only [wM] at hk ⊢; exact hk)) : Q := e h0
theorem cv {x y : Option R} (h0 : Sat y G) (e : x = y := by conv => lhs; cbv) : Sat x G := by subst e; exact h0
theorem bU {b b' : Bool} {x y : Unit → Option R} {A : Type} {x' y' : Option A} {r : A} (h1 : b' = true → x' = some r → Sat (x ()) G) (h2 : b' = false → y' = some r → Sat (y ()) G) (e : b' = b := by first | rfl | (subst_vars; rfl)) : (bif b' then x' else y') = some r → Sat (br b x y) G := by
 subst e
 cases b'
 ·exact h2 rfl
 ·exact h1 rfl
theorem fk {A : Type} {a r : A} {P Q : Prop} (h0 : some a = some r) (h1 : P) (e : P → Q := by obtain rfl := fV h; subst_vars; first | exact id | (intro hk; simp only [wM] at hk ⊢; exact hk)) : Q := e h1
theorem sp {A : Type} {a r : A} {x v : R} (h0 : some a = some r) (e : x = v := by obtain rfl := fV h; subst_vars; rfl) : Sat (some x) (fun q => q = v) := ⟨_, rfl, e⟩
theorem s3 {r : R} (e : G r := by first | exact ⟨rfl, rfl, rfl⟩ | (refine ⟨rfl, ?_, ?_⟩ <;> first | rfl | (dsimp only; simp only [wM]; rfl))) : Sat (some r) G := ⟨r, rfl, e⟩
theorem sL {r : R} (e : G r := by first | exact .inl ⟨⟨_, rfl⟩, rfl⟩ | (refine .inl ⟨⟨_, rfl⟩, ?_⟩; dsimp only; simp only [wM]; rfl)) : Sat (some r) G := ⟨r, rfl, e⟩
theorem sR {r : R} (e : G r := by first | exact .inr ⟨rfl, rfl⟩ | (refine .inr ⟨rfl, ?_⟩; dsimp only; simp only [wM]; rfl)) : Sat (some r) G := ⟨r, rfl, e⟩
theorem ZY {b : Bool} {x y : Option R} {r : R} (h : (bif b then x else y) = some r) : (b = true ∧ x = some r) ∨ (b = false ∧ y = some r) := by
 cases b
 ·exact .inr ⟨rfl, h⟩
 ·exact .inl ⟨rfl, h⟩
theorem bic {b : Bool} {x y : Option R} {r : R} (h : (bif b then x else y) = some r) : (b = true ∧ x = some r) ∨ (b = false ∧ y = some r) := ZY h
theorem aJ {b : Bool} {x : Option R} {r : R} (h : (bif b then x else none) = some r) : b = true ∧ x = some r := by
 cases b
 ·cases h
 ·exact ⟨rfl, h⟩
end
section
variable {c : CF} {Ω : Om} (hΩ : real c = Ω) {R A : Type} {G : R → Prop}
include hΩ
theorem aC {f : (A → Option R) → Option R} {k : A → Option R} (h : Sat (f k) G) : Sat (Ω.grp f k) G := by subst hΩ; exact h
theorem aI {f : (A → Option R) → Option R} {k : A → Option R} (x : A) (h : ∀ k : A → Option R, Sat (k x) G → Sat (f k) G) (h2 : Sat (k x) G) : Sat (Ω.grp f k) G := by subst hΩ; exact h k h2
theorem aj {f : Unit → Option R} (h : Sat (f ()) G) : Sat (Ω.tick f) G := by subst hΩ; exact h
theorem qJ {st : St} {l i off : Nat} {ty : Nat} {cs cs' : List PV} (h : look st l i = some (.box ty cs)) (hd : down.iM (l + 1) (cs.drop off) = cs') {f : List PV → Option R} (h2 : Sat (f cs') G) : Sat (Ω.akg st l i off f) G := by
 subst hΩ hd; simp only [real, h]; exact h2
theorem tT {st st' : St} {l i off : Nat} {vs : List PV} {ty : Nat} {cs cs' : List PV} (h : look st l i = some (.box ty cs)) (hs : fM st l i (.box ty cs') = st') (hv : eB (up.ups (l + 1) vs) = true) (hc : Nat.ble (off + vs.length) cs.length = true)
  {f : St → Option R} (h2 : Sat (f st') G) (hn : cs.take off ++ up.ups (l + 1) vs ++ cs.drop (off + vs.length) = cs' := by first | rfl | ((try clear h); subst_vars; rfl)) : Sat (Ω.NC st l i off vs f) G := by
 subst hΩ hs hn; simp only [real, h, hv, hc, cond_true]; exact h2
theorem mE {st : St} {l : Nat} {o : Obj} (hl : iZ st l = true) {f : Nat → St → Option R} (h2 : ∀ n st', fE st l = n → kX st l o = st' → Sat (f n st') G) : Sat (Ω.yF st l o f) G := by
 subst hΩ; simp only [real, hl, cond_true]; exact h2 _ _ rfl rfl
theorem Sz {x y : Option R} {q : R} (h1 : Sat x (fun r => r = q)) (h2 : Sat y (fun r => r = q)) : Sat (Ω.both x y) (fun r => r = q) := by
 obtain ⟨_, e1, rfl⟩ := h1
 obtain ⟨_, e2, rfl⟩ := h2
 subst hΩ
 exact ⟨_, Bz e1 e2, rfl⟩
theorem iI (st : St) : Ω.same st st = true := by subst hΩ; simp [real]
theorem kL (n : Int) : Ω.ieq n n = true := by subst hΩ; simp [real]
end
def wN {α : Type} (L : List α → List (List D)) (X : Option (List α) → Option (List (List D))) (e : α → List D) (sz : Nat) : Prop :=
 (∀ l, L l = l.map e) ∧ (∀ x, X x = x.map L) ∧ ∀ x, (e x).length = sz
section
variable {c : CF} {Ω : Om} (hΩ : real c = Ω) {R α : Type} {G : R → Prop} {L : List α → List (List D)} {X : Option (List α) → Option (List (List D))} {e : α → List D} {sz : Nat} (hL : wN L X e sz)
include hΩ hL
theorem av (l : List α) {rows : List (List D)} {f : Int → Option R} (h : ∀ n, ln l = n → Sat (f n) G) (hr : L l = rows := by first | rfl | ((try clear h); subst_vars; rfl)) : Sat (Ω.Ux rows f) G := by
 replace h := h _ rfl
 subst hΩ hr; rw [jK, hL.1]; simpa [real, ln] using h
theorem bg (l : List α) {rows : List (List D)} (hr : L l = rows := by first | rfl | ((try clear h); subst_vars; rfl)) : Ω.fits sz rows none = true := by
 subst hΩ hr; simp [real, hL.1, hL.2.2]
theorem wO (l : List α) (x : Option (List α)) {rows : List (List D)} {ext : Option (List (List D))} (hr : L l = rows := by first | rfl | ((try clear h); subst_vars; rfl)) (hx : X x = ext := by first | rfl | ((try clear h); subst_vars; rfl)) : Ω.fits sz rows ext = true := by
 subst hΩ hr hx
 cases x <;> simp [real, hL.1, hL.2.1, hL.2.2]
theorem gy (l : List α) {rows : List (List D)} {n : Int} (hr : L l = rows := by first | rfl | ((try clear h); subst_vars; rfl) | ((try clear h); subst_vars; simp only [wM]) | assumption | ((try clear h); subst_vars; assumption)) (hn : ln l = n := by first | rfl | ((try clear h); subst_vars; rfl) | ((try clear h); subst_vars; simp only [wM]) | assumption | ((try clear h); subst_vars; assumption)) : Ω.ieq (Ω.len rows) n = true := by
 subst hΩ hr hn; simp [real, hL.1, ln]
theorem fJ {l : List α} {b : Bool} (h : (ln l == 0) = b) {rows : List (List D)} (hr : L l = rows := by first | rfl | ((try clear h); subst_vars; rfl)) : Ω.ieq (Ω.len rows) 0 = b := by
 subst hΩ hr; rw [← h]; simp [real, hL.1, ln]
theorem bG {l : List α} {i : Int} {x : α} (h : idx l i = some x) {rows : List (List D)} {j : Int} (hr : L l = rows := by first | rfl | ((try clear h); subst_vars; rfl)) (hj : i = j := by first | rfl | ((try clear h); subst_vars; rfl)) : Ω.nth rows j = some (e x) := by
 subst hΩ hr hj
 simp only [idx] at h
 simp only [real, hL.1]
 split at h
 ·rename_i h0
  rw [if_pos h0, List.getElem?_map, h]; rfl
 ·cases h
theorem eP (l xs : List α) {rows rs : List (List D)} {f : List (List D) → Int → Option R} (h : ∀ l', l ++ xs = l' → ∀ n, ln l' = n → Sat (f (L l') n) G) (hr : L l = rows := by first | rfl | ((try clear h); subst_vars; rfl)) (he : L xs = rs := by first | rfl | ((try clear h); subst_vars; rfl)) : Sat (Ω.G6 rows rs f) G := by
 replace h := h _ rfl _ rfl
 subst hΩ hr he; rw [jL]
 have h1 : (real c).cat (L l) (L xs) = L (l ++ xs) := by simp [real, hL.1]
 have h2 : (real c).len (L (l ++ xs)) = ln (l ++ xs) := by simp [real, hL.1, ln]
 rw [h1, h2]; exact h
theorem Xn (l : List α) (i : Int) (x : α) {rows : List (List D)} {r : List D} {j : Int} {f : List (List D) → Option R} (h : ∀ l', l.set i.toNat x = l' → Sat (f (L l')) G) (hr : L l = rows := by first | rfl | ((try clear h); subst_vars; rfl)) (he : e x = r := by first | rfl | ((try clear h); subst_vars; rfl)) (hj : i = j := by first | rfl | ((try clear h); subst_vars; rfl)) : Sat (Ω.aaw rows j r f) G := by
 replace h := h _ rfl
 subst hΩ hr he hj; rw [yI]
 have h1 : (real c).aax (L l) i (e x) = L (l.set i.toNat x) := by simp [real, hL.1, List.map_set]
 rw [h1]; exact h
theorem eT (l : List α) (i j : Int) {rows : List (List D)} {i' j' : Int} {f : List (List D) → Option R} (h : ∀ l', cut l i j = l' → Sat (f (L l')) G) (hr : L l = rows := by first | rfl | ((try clear h); subst_vars; rfl)) (hi : i = i' := by first | rfl | ((try clear h); subst_vars; rfl)) (hj : j = j' := by first | rfl | ((try clear h); subst_vars; rfl)) : Sat (Ω.FW rows i' j' f) G := by
 replace h := h _ rfl
 subst hΩ hr hi hj; rw [kD]
 have h1 : (real c).cut (L l) i j = L (cut l i j) := by simp [real, hL.1, cut, List.map_take, List.map_drop]
 rw [h1]; exact h
theorem rY (x : α) (n : Int) {r : List D} {m : Int} {f : List (List D) → Int → Option R} (h : ∀ l', List.replicate n.toNat x = l' → ∀ n, ln l' = n → Sat (f (L l') n) G) (he : e x = r := by first | rfl | ((try clear h); subst_vars; rfl)) (hm : n = m := by first | rfl | ((try clear h); subst_vars; rfl)) : Sat (Ω.Lb r m f) G := by
 replace h := h _ rfl _ rfl
 subst hΩ he hm; rw [o9]
 have h1 : (real c).fill (e x) n = L (List.replicate n.toNat x) := by simp [real, hL.1]
 have h2 : (real c).len (L (List.replicate n.toNat x)) = ln (List.replicate n.toNat x) := by simp [real, hL.1, ln]
 rw [h1, h2]; exact h
theorem qK {f : List (List D) → Option R} (h : ∀ l' : List α, [] = l' → Sat (f (L l')) G) : Sat (Ω.Zy f) G := by
 replace h := h _ rfl
 have h1 : L [] = [] := by rw [hL.1]; rfl
 rw [h1] at h; subst hΩ; exact h
end
def akz {K V : Type} [BEq K] (M : List (K × V) → List (PV × PV)) (ek : K → PV) (ev : V → PV) : Prop :=
 (∀ l, M l = l.map fun p => (ek p.1, ev p.2)) ∧ ∀ x y, vU (ek x) (ek y) = (x == y)
section
variable {c : CF} {Ω : Om} (hΩ : real c = Ω) {R K V : Type} [BEq K] {G : R → Prop} {M : List (K × V) → List (PV × PV)} {ek : K → PV} {ev : V → PV} (hM : akz M ek ev)
include hΩ hM
end
def Good {α β : Type} (n : Nat) (dom : List Nat) (mk : α → Env × St) (out : β → Ex × Env × St) (q : α ⊕ β) (r : Ex × Env × St) : Prop :=
 match q with
 | .inl a => r.1 = .normal ∧ bn dom r.2.1 = (mk a).1 ∧ trim gQ n (bn dom r.2.1) r.2.2 = (mk a).2
 | .inr b => (∃ i, r.1 = .exit i) ∧ (r.1, bn dom r.2.1, trim gQ n (bn dom r.2.1) r.2.2) = out b ∨ r.1 = .ret ∧ (r.1, bn dom r.2.1, trim gQ n (bn dom r.2.1) r.2.2) = out b
theorem agy {α β : Type} {f : α → Option (α ⊕ β)} {n : Nat} {dom : List Nat} {F : Env → St → Option (Ex × Env × St)} {mk : α → Env × St} {out : β → Ex × Env × St}
  (h : ∀ a q, f a = some q → Sat (F (mk a).1 (mk a).2) (Good n dom mk out q)) : ∀ a b, wl f a = some b → iter n dom F (mk a).1 (mk a).2 = some (out b) := by
 refine wl.partial_correctness f (fun a b => iter n dom F (mk a).1 (mk a).2 = some (out b)) ?_
 intro w ih a b hb
 simp only [Option.bind_eq_bind] at hb
 obtain ⟨q, hq, hb⟩ := Option.bind_eq_some_iff.1 hb
 obtain ⟨⟨e, ρ, st⟩, hr, hg⟩ := h a q hq
 rw [iter, hr]
 simp only [Option.bind_eq_bind, Option.bind_some]
 cases q with
 | inl a' =>
  obtain ⟨g1, g2, g3⟩ := hg
  subst g1
  have := ih a' b hb
  rw [← g2, ← g3] at this
  exact this
 | inr b' =>
  cases hb
  rcases hg with ⟨⟨i, g1⟩, g2⟩ | ⟨g1, g2⟩ <;> subst g1 <;> exact congrArg some g2
theorem dL {c : CF} {Ω : Om} (hΩ : real c = Ω) {R α β : Type} {G : R → Prop} {f : α → Option (α ⊕ β)} {n : Nat} {dom : List Nat} {F : Env → St → Option (Ex × Env × St)} {ρ : Env} {st : St} {K : Ex × Env × St → Option R}
  (mk : α → Env × St) (out : β → Ex × Env × St) (a : α) {b : β} (hl : wl f a = some b) (h : ∀ a q, f a = some q → Sat (F (mk a).1 (mk a).2) (Good n dom mk out q)) (h2 : Sat (K (out b)) G) (hm : mk a = (ρ, st) := by first | rfl | ((try clear h); subst_vars; rfl) | ((try clear h); subst_vars; simp only [wM]) | assumption | ((try clear h); subst_vars; assumption)) :
  Sat ((Ω.iter n dom F ρ st).bind K) G := by
 subst hΩ
 have := agy h a b hl
 rw [hm] at this
 refine aM ?_ h2
 exact this
theorem aR {S : Sys} {Ω : Om} (hΩ : real (call S) = Ω) {f : Nat} {fn : Func} {x : XC} {rs : List ResultVar} (h1 : S.foreign f = none) (h2 : S.fn f = some fn) (h4 : fn.body.map (strip (S.tab.ann f)) = some x) (h5 : fn.results.toList = rs) (h6 : (S.tab.ann f).arena = false) (h7 : jl f = false) (args : List PV) (st : St) :
  Ω.cf f args st = nJ Ω (S.tab.ann f).take 0 (down.iM 1 args) ([] :: st) fun args st => jr Ω S.tab (S.tab.ann f) x (enter 0 args) st fun e ρ st => match e with
   | .exit _ => none
   | _ => leave Ω S.tab (S.tab.ann f).give rs ρ st := by
 subst hΩ
 refine Eq.trans ?_ ((Hy (c := call S) (Γ := S.tab) h4 h5 args st).trans ?_)
 ·show (bif jl f then none else call S f args st) = _
  rw [h7]
  show call S f args st = _
  rw [call.eq_1]
  unfold step
  rw [h1, h2]
  dsimp only
  rw [h6]
 ·rfl
theorem aH {Ω : Om} {R : Type} {G : R → Prop} {f : Nat} {lst args : List PV} {st : St} {v : St → PV × St} {F : PV × St → Option R} (h1 : ∀ {args : List PV}, lst = args → ∀ st : St, Sat (Ω.cf f args st) (fun q => q = v st)) (h2 : Sat (F (v st)) G) (ha : lst = args := by (try clear h); subst_vars; rfl) : Sat ((Ω.cf f args st).bind F) G :=
 gW (h1 ha st) h2
theorem agz {S : Sys} {f : Nat} {args : List PV} {st : St} {r : PV × St} (h : Sat ((real (call S)).cf f args st) (fun q => q = r)) : call S f args st = some r := by
 obtain ⟨_, h1, rfl⟩ := h
 change (bif jl f then none else call S f args st) = some _ at h1
 cases hs : jl f with
 | true => rw [hs] at h1; cases h1
 | false => rw [hs] at h1; exact h1
end Go.X
