/- Values on plain data: several laws, one behind the other. -/
import Derived.Test.YtedfkehkcaaplaaTWL1
namespace Go.Proofs.Ytedfkehkcaaplaa
open Go Go.X
set_option linter.unusedVariables false
set_option linter.unusedSimpArgs false
set_option maxRecDepth 100000
def iW : Inst → Int | .mk d _ _ _ _ _ _ _ _ _ _ _ _ _ => d
def iC : Inst → List Inst | .mk _ _ _ _ k _ _ _ _ _ _ _ _ _ => k.l
def fB : Inst → List Inst | .mk _ _ _ _ _ _ _ _ _ _ _ s _ _ => s.l
def wK : Inst → List Inst → List Inst → Inst | .mk d c s o _ n f b e w h _ r q, k', p' => .mk d c s o ⟨k', none⟩ n f b e w h ⟨p', none⟩ r q
theorem Xe (x : Inst) (k s : List Inst) : iW (wK x k s) = iW x := by cases x; rfl
theorem zO (x : Inst) (k s : List Inst) : iC (wK x k s) = k := by cases x; rfl
theorem vT (x : Inst) (k s : List Inst) : fB (wK x k s) = s := by cases x; rfl
theorem HZ {x y : Inst} (h : y ∈ iC x) : SizeOf.sizeOf y < SizeOf.sizeOf x := by
 obtain ⟨d, c, s, o, ⟨k, kx⟩, n, f, b, e, w, h', ⟨p, px⟩, r, q⟩ := x
 have := List.sizeOf_lt_of_mem (show y ∈ k from h)
 simp only [Inst.mk.sizeOf_spec, Sl.mk.sizeOf_spec]
 omega
theorem H6 {x y : Inst} (h : y ∈ fB x) : SizeOf.sizeOf y < SizeOf.sizeOf x := by
 obtain ⟨d, c, s, o, ⟨k, kx⟩, n, f, b, e, w, h', ⟨p, px⟩, r, q⟩ := x
 have := List.sizeOf_lt_of_mem (show y ∈ p from h)
 simp only [Inst.mk.sizeOf_spec, Sl.mk.sizeOf_spec]
 omega
theorem EL {p : Inst → Prop} (h : ∀ x, (∀ y ∈ iC x, p y) → (∀ y ∈ fB x, p y) → p x) : ∀ x, p x := by
 have : ∀ (N : Nat) x, SizeOf.sizeOf x ≤ N → p x := by
  intro N
  induction N with
  | zero => intro x hx; obtain ⟨d, c, s, o, k, n, f, b, e, w, h', q, r, t⟩ := x; simp only [Inst.mk.sizeOf_spec] at hx; omega
  | succ N ih => intro x hx; exact h x (fun y hy => ih y (by have := HZ hy; omega)) (fun y hy => ih y (by have := H6 hy; omega))
 exact fun x => this _ x (Nat.le_refl _)
noncomputable def EM : Nat → Inst → List Inst
 | 0, _ => []
 | N + 1, x => x :: ((iC x).flatMap (EM N) ++ (fB x).flatMap (EM N))
noncomputable def nodes (x : Inst) : List Inst := EM (SizeOf.sizeOf x) x
theorem gV {A B : Type} {f g : A → List B} : ∀ {l : List A}, (∀ x ∈ l, f x = g x) → l.flatMap f = l.flatMap g
 | [], _ => rfl
 | a :: r, h => by rw [List.flatMap_cons, List.flatMap_cons, h a (by simp), gV fun x hx => h x (by simp [hx])]
theorem Lm : ∀ (N M : Nat) (x : Inst), SizeOf.sizeOf x ≤ N → SizeOf.sizeOf x ≤ M → EM N x = EM M x := by
 intro N
 induction N with
 | zero => intro M x hx; obtain ⟨d, c, s, o, k, n, f, b, e, w, h', q, r, t⟩ := x; simp only [Inst.mk.sizeOf_spec] at hx; omega
 | succ N ih =>
  intro M x hx hM
  cases M with
  | zero => obtain ⟨d, c, s, o, k, n, f, b, e, w, h', q, r, t⟩ := x; simp only [Inst.mk.sizeOf_spec] at hM; omega
  | succ M =>
   rw [EM, EM, gV fun y hy => ih M y (by have := HZ hy; omega) (by have := HZ hy; omega), gV (l := fB x) fun y hy => ih M y (by have := H6 hy; omega) (by have := H6 hy; omega)]
theorem mF (x : Inst) : nodes x = x :: ((iC x).flatMap nodes ++ (fB x).flatMap nodes) := by
 rw [nodes, Lm _ (SizeOf.sizeOf x + 1) x (Nat.le_refl _) (by omega), EM, gV (g := nodes) fun y hy => Lm _ _ y (by have := HZ hy; omega) (Nat.le_refl _), gV (l := fB x) (g := nodes) fun y hy => Lm _ _ y (by have := H6 hy; omega) (Nat.le_refl _)]
noncomputable def aad (y : Inst) : Nat → Inst → Inst
 | 0, x => x
 | N + 1, x => if iW x = iW y then y else wK x ((iC x).map (aad y N)) ((fB x).map (aad y N))
noncomputable def sub (y x : Inst) : Inst := aad y (SizeOf.sizeOf x) x
theorem Xf (y : Inst) : ∀ (N M : Nat) (x : Inst), SizeOf.sizeOf x ≤ N → SizeOf.sizeOf x ≤ M → aad y N x = aad y M x := by
 intro N
 induction N with
 | zero => intro M x hx; obtain ⟨d, c, s, o, k, n, f, b, e, w, h', q, r, t⟩ := x; simp only [Inst.mk.sizeOf_spec] at hx; omega
 | succ N ih =>
  intro M x hx hM
  cases M with
  | zero => obtain ⟨d, c, s, o, k, n, f, b, e, w, h', q, r, t⟩ := x; simp only [Inst.mk.sizeOf_spec] at hM; omega
  | succ M =>
   rw [aad, aad, List.map_congr_left (l := iC x) fun y hy => ih M y (by have := HZ hy; omega) (by have := HZ hy; omega), List.map_congr_left (l := fB x) fun y hy => ih M y (by have := H6 hy; omega) (by have := H6 hy; omega)]
theorem sub_eq (y x : Inst) : sub y x = if iW x = iW y then y else wK x ((iC x).map (sub y)) ((fB x).map (sub y)) := by
 rw [sub, Xf y _ (SizeOf.sizeOf x + 1) x (Nat.le_refl _) (by omega), aad, List.map_congr_left (l := iC x) (g := sub y) fun z hz => Xf y _ _ z (by have := HZ hz; omega) (Nat.le_refl _), List.map_congr_left (l := fB x) (g := sub y) fun z hz => Xf y _ _ z (by have := H6 hz; omega) (Nat.le_refl _)]
theorem xV {y x : Inst} (h : iW x = iW y) : sub y x = y := by rw [sub_eq, if_pos h]
theorem rT {y x : Inst} (h : iW x ≠ iW y) : sub y x = wK x ((iC x).map (sub y)) ((fB x).map (sub y)) := by rw [sub_eq, if_neg h]
theorem iD {x n : Inst} : n ∈ nodes x ↔ n = x ∨ (∃ y ∈ iC x, n ∈ nodes y) ∨ ∃ y ∈ fB x, n ∈ nodes y := by
 rw [mF]; simp
theorem mP (x : Inst) : x ∈ nodes x := iD.2 (.inl rfl)
theorem sub_sub {y f : Inst} (h : iW y = iW f) : ∀ x, sub f (sub y x) = sub f x := by
 refine EL fun x hk hs => ?_
 by_cases e : iW x = iW y
 ·rw [xV e, xV h, xV (e.trans h)]
 ·have e' : iW x ≠ iW f := fun q => e (q.trans h.symm)
  rw [rT e, rT (by rw [Xe]; exact e'), rT e', zO, vT, List.map_map, List.map_map]
  rw [List.map_congr_left (l := iC x) (f := sub f ∘ sub y) (g := sub f) hk, List.map_congr_left (l := fB x) (f := sub f ∘ sub y) (g := sub f) hs]
  cases x; rfl
noncomputable def nums (x : Inst) : List Int := (nodes x).map iW
theorem kE (x : Inst) : nums x = iW x :: ((iC x).flatMap nums ++ (fB x).flatMap nums) := by
 rw [nums, mF]
 simp only [List.map_cons, List.map_append, List.map_flatMap]
 rfl
theorem RS {x : Inst} {d : Int} : d ∈ nums x ↔ d = iW x ∨ (∃ y ∈ iC x, d ∈ nums y) ∨ ∃ y ∈ fB x, d ∈ nums y := by
 rw [kE]; simp
theorem Co {x n : Inst} (h : n ∈ nodes x) : iW n ∈ nums x := List.mem_map_of_mem h
theorem Xg {A B : Type} {g : A → List B} : ∀ {l : List A} {k : Nat} {b : B}, (l.flatMap g)[k]? = some b → ∃ l1 a l2 j, l = l1 ++ a :: l2 ∧ (g a)[j]? = some b ∧ k = (l1.flatMap g).length + j
 | [], k, b, h => by simp at h
 | a :: r, k, b, h => by
  rw [List.flatMap_cons] at h
  by_cases hk : k < (g a).length
  ·rw [List.getElem?_append_left hk] at h
   exact ⟨[], a, r, k, rfl, h, by simp⟩
  ·rw [List.getElem?_append_right (by omega)] at h
   obtain ⟨l1, a', l2, j, rfl, h2, h3⟩ := Xg h
   exact ⟨a :: l1, a', l2, j, rfl, h2, by simp only [List.flatMap_cons, List.length_append]; omega⟩
theorem alu {y x : Inst} (h : iW y ∉ nums x) : nums (sub y x) = nums x := by
 revert h
 refine EL (p := fun x => iW y ∉ nums x → nums (sub y x) = nums x) (fun x hk hs h => ?_) x
 have h0 := fun q => h (RS.2 q)
 have e : iW x ≠ iW y := fun q => h0 (.inl q.symm)
 rw [rT e, kE, kE x, Xe, zO, vT, List.flatMap_map, List.flatMap_map]
 rw [gV (l := iC x) (g := nums) fun z hz => hk z hz fun q => h0 (.inr (.inl ⟨z, hz, q⟩)), gV (l := fB x) (g := nums) fun z hz => hs z hz fun q => h0 (.inr (.inr ⟨z, hz, q⟩))]
theorem vU {y : Inst} {l : List Inst} (h : iW y ∉ l.flatMap nums) : (l.map (sub y)).flatMap nums = l.flatMap nums := by
 rw [List.flatMap_map]
 refine gV fun z hz => alu fun q => h ?_
 rw [List.mem_flatMap]
 exact ⟨z, hz, q⟩
theorem RU {y : Inst} : ∀ (x : Inst) (k : Nat) (f : Inst), (nums x).Nodup → (nodes x)[k]? = some f → iW y = iW f →
  ∃ A B, nums x = A ++ nums f ++ B ∧ A.length = k ∧ nums (sub y x) = A ++ nums y ++ B := by
 intro x
 refine EL (p := fun x => ∀ (k : Nat) (f : Inst), (nums x).Nodup → (nodes x)[k]? = some f → iW y = iW f →
  ∃ A B, nums x = A ++ nums f ++ B ∧ A.length = k ∧ nums (sub y x) = A ++ nums y ++ B) (fun x hk hs k f nd hf hy => ?_) x
 have hm := List.mem_of_getElem? hf
 cases k with
 | zero =>
  rw [mF] at hf
  cases hf
  exact ⟨[], [], by simp, rfl, by rw [xV hy.symm]; simp⟩
 | succ k =>
  have hn : iW x ≠ iW y := by
   intro e
   have h1 : (nums x)[0]? = some (iW x) := by rw [kE]; rfl
   have h2 : (nums x)[k + 1]? = some (iW f) := by rw [nums, List.getElem?_map, hf]; rfl
   rw [e, hy] at h1
   have h3 : 0 < (nums x).length := (List.getElem?_eq_some_iff.1 h1).1
   have := (List.getElem?_inj (i := 0) (j := k + 1) h3 nd).1 (h1.trans h2.symm)
   omega
  rw [mF, List.getElem?_cons_succ] at hf
  rw [kE] at nd
  have nd' := (List.nodup_cons.1 nd).2
  rw [List.nodup_append] at nd'
  obtain ⟨nk, ns, nx⟩ := nd'
  have lens : ∀ l : List Inst, (l.flatMap nums).length = (l.flatMap nodes).length := fun l => by
   rw [show nums = fun x => (nodes x).map iW from rfl, ← List.map_flatMap, List.length_map]
  by_cases hlt : k < ((iC x).flatMap nodes).length
  ·rw [List.getElem?_append_left hlt] at hf
   obtain ⟨l1, a, l2, j, hl, hj, hkj⟩ := Xg hf
   have ha : a ∈ iC x := by rw [hl]; simp
   rw [hl, List.flatMap_append, List.flatMap_cons] at nk
   obtain ⟨q1, q2, q3⟩ := List.nodup_append.1 nk
   obtain ⟨q4, q5, q6⟩ := List.nodup_append.1 q2
   have hd : iW y ∈ nums a := by rw [hy]; exact Co (List.mem_of_getElem? hj)
   have o1 : iW y ∉ l1.flatMap nums := fun q => q3 _ q _ (List.mem_append_left _ hd) rfl
   have o2 : iW y ∉ l2.flatMap nums := fun q => q6 _ hd _ q rfl
   have o3 : iW y ∉ (fB x).flatMap nums := fun q => nx _ (by rw [hl, List.flatMap_append, List.flatMap_cons]; exact List.mem_append_right _ (List.mem_append_left _ hd)) _ q rfl
   obtain ⟨A, B, h1, h2, h3⟩ := hk a ha j f q4 hj hy
   refine ⟨iW x :: (l1.flatMap nums ++ A), B ++ (l2.flatMap nums ++ (fB x).flatMap nums), ?_, ?_, ?_⟩
   ·rw [kE, hl, List.flatMap_append, List.flatMap_cons, h1]
    simp only [List.cons_append, List.append_assoc]
   ·simp only [List.length_cons, List.length_append, lens, h2]
    omega
   ·rw [rT hn, kE, Xe, zO, vT, vU o3, hl, List.map_append, List.map_cons, List.flatMap_append, List.flatMap_cons, vU o1, vU o2, h3]
    simp only [List.cons_append, List.append_assoc]
  ·rw [List.getElem?_append_right (by omega)] at hf
   obtain ⟨l1, a, l2, j, hl, hj, hkj⟩ := Xg hf
   have ha : a ∈ fB x := by rw [hl]; simp
   rw [hl, List.flatMap_append, List.flatMap_cons] at ns
   obtain ⟨q1, q2, q3⟩ := List.nodup_append.1 ns
   obtain ⟨q4, q5, q6⟩ := List.nodup_append.1 q2
   have hd : iW y ∈ nums a := by rw [hy]; exact Co (List.mem_of_getElem? hj)
   have o1 : iW y ∉ l1.flatMap nums := fun q => q3 _ q _ (List.mem_append_left _ hd) rfl
   have o2 : iW y ∉ l2.flatMap nums := fun q => q6 _ hd _ q rfl
   have o3 : iW y ∉ (iC x).flatMap nums := fun q => nx _ q _ (by rw [hl, List.flatMap_append, List.flatMap_cons]; exact List.mem_append_right _ (List.mem_append_left _ hd)) rfl
   obtain ⟨A, B, h1, h2, h3⟩ := hs a ha j f q4 hj hy
   refine ⟨iW x :: ((iC x).flatMap nums ++ (l1.flatMap nums ++ A)), B ++ l2.flatMap nums, ?_, ?_, ?_⟩
   ·rw [kE, hl, List.flatMap_append, List.flatMap_cons, h1]
    simp only [List.cons_append, List.append_assoc]
   ·simp only [List.length_cons, List.length_append, lens, h2]
    omega
   ·rw [rT hn, kE, Xe, zO, vT, vU o3, hl, List.map_append, List.map_cons, List.flatMap_append, List.flatMap_cons, vU o1, vU o2, h3]
    simp only [List.cons_append, List.append_assoc]
def low : Nat → Inst → Prop
 | 0, _ => False
 | d + 1, x => (∀ y ∈ iC x, low d y) ∧ ∀ y ∈ fB x, low d y
theorem aov {y : Inst} (h1 : iC y = []) (h2 : fB y = []) : ∀ (d : Nat) (x : Inst), low d x → low d (sub y x) := by
 intro d
 induction d with
 | zero => intro x h; exact h
 | succ d ih =>
  intro x h
  by_cases e : iW x = iW y
  ·rw [xV e]
   exact ⟨fun z hz => (by rw [h1] at hz; cases hz), fun z hz => (by rw [h2] at hz; cases hz)⟩
  ·rw [rT e]
   refine ⟨fun z hz => ?_, fun z hz => ?_⟩
   ·rw [zO] at hz
    obtain ⟨u, hu, rfl⟩ := List.mem_map.1 hz
    exact ih u (h.1 u hu)
   ·rw [vT] at hz
    obtain ⟨u, hu, rfl⟩ := List.mem_map.1 hz
    exact ih u (h.2 u hu)
theorem afY {y n : Inst} : ∀ (x : Inst), n ∈ nodes (sub y x) → n ∈ nodes y ∨ ∃ m ∈ nodes x, iW m ≠ iW y ∧ n = wK m ((iC m).map (sub y)) ((fB m).map (sub y)) := by
 refine EL fun x hk hs h => ?_
 by_cases e : iW x = iW y
 ·rw [xV e] at h; exact .inl h
 ·rw [rT e] at h
  rcases iD.1 h with rfl | ⟨z, hz, h⟩ | ⟨z, hz, h⟩
  ·exact .inr ⟨x, mP x, e, rfl⟩
  ·rw [zO] at hz
   obtain ⟨u, hu, rfl⟩ := List.mem_map.1 hz
   rcases hk u hu h with q | ⟨m, hm, q⟩
   ·exact .inl q
   ·exact .inr ⟨m, iD.2 (.inr (.inl ⟨u, hu, hm⟩)), q⟩
  ·rw [vT] at hz
   obtain ⟨u, hu, rfl⟩ := List.mem_map.1 hz
   rcases hs u hu h with q | ⟨m, hm, q⟩
   ·exact .inl q
   ·exact .inr ⟨m, iD.2 (.inr (.inr ⟨u, hu, hm⟩)), q⟩
mutual
noncomputable def FR : Expr → Expr
 | .mk k n s a ns v el ky c t => .mk k n s (Xh a) (.mk ns.l none) (Xh v) el (Xh ky) (Fx c) t
noncomputable def Sn : Act → Act
 | .mk k n e => .mk k n (FR e)
noncomputable def Xh : Sl Expr → Sl Expr
 | .mk l x => .mk (alv l) none
noncomputable def alv : List Expr → List Expr
 | [] => []
 | v :: r => FR v :: alv r
noncomputable def Fx : Sl Act → Sl Act
 | .mk l x => .mk (alx l) none
noncomputable def alx : List Act → List Act
 | [] => []
 | v :: r => Sn v :: alx r
end
theorem xW : ∀ l, alv l = l.map FR
 | [] => by rw [alv]; rfl
 | v :: r => by rw [alv, xW r]; rfl
theorem rU : ∀ l, alx l = l.map Sn
 | [] => by rw [alx]; rfl
 | v :: r => by rw [alx, rU r]; rfl
noncomputable def cpC (c : Cell) : Cell := ⟨c.Kind, c.Name, cp c.jN, cp c.Next, cpS c.afP, Fx c.Do, Fx c.Undo, cpG c.Env, c.Runs, c.Ran, Fx c.Old, cpG c.Past⟩
noncomputable def CK (c : Child) : Child := ⟨c.Key, c.Kind, c.Name, cp c.jN⟩
mutual
noncomputable def fF : Inst → Inst
 | .mk d c s o k n f b e w h p r q => .mk d (CK c) (.mk (s.l.map cpC) none) (.mk (o.l.map CK) none) (Lp k) n f b (cp e) w h (Lp p) r q
noncomputable def Lp : Sl Inst → Sl Inst
 | .mk l x => .mk (aly l) none
noncomputable def aly : List Inst → List Inst
 | [] => []
 | v :: r => fF v :: aly r
end
theorem mZ : ∀ l, aly l = l.map fF
 | [] => by rw [aly]; rfl
 | v :: r => by rw [aly, mZ r]; rfl
theorem kZ {A : Type} {g : A → A} {R : A → A → Prop} {l m : List A} (h : l.map g = m.map g) (hr : ∀ u ∈ l, ∀ a ∈ m, g u = g a → R u a) : EK R l m := by
 refine ⟨by simpa using congrArg List.length h, fun i u a hu ha => hr u (List.mem_of_getElem? hu) a (List.mem_of_getElem? ha) ?_⟩
 have := congrArg (fun l => l[i]?) h
 simpa [List.getElem?_map, hu, ha] using this
theorem Lr : ∀ (N : Nat) (a b : Value), Fit N a → cp a = cp b → Ll N a b := by
 intro N
 induction N with
 | zero => intro a b h; exact absurd h (by obtain ⟨_, _, _, ⟨_, _⟩, ⟨_, _⟩, _, _, _⟩ := a; simp [Fit])
 | succ N ih =>
  intro a b hf h
  obtain ⟨k, n, s, ⟨l, x⟩, ⟨f, y⟩, e, c, b'⟩ := a
  obtain ⟨k', n', s', ⟨l', x'⟩, ⟨f', y'⟩, e', c', b''⟩ := b
  simp only [cp, cpS, cpG, Value.mk.injEq, Sl.mk.injEq, rQ, rR, and_true] at h
  obtain ⟨rfl, rfl, rfl, h1, h2, rfl, rfl, rfl⟩ := h
  obtain ⟨⟨p1, p2⟩, p3, p4⟩ := hf
  exact ⟨rfl, rfl, rfl, rfl, rfl, rfl, kZ h1 fun u hu a _ e => ih u a (p2 u hu) e, kZ h2 fun u hu a _ e => by
   have := p4 u hu
   obtain ⟨m, v⟩ := u
   obtain ⟨m', v'⟩ := a
   simp only [RQ, Field.mk.injEq] at e
   exact ⟨e.1, ih v v' this e.2⟩⟩
theorem afa {N : Nat} {u a : Field} (hf : RP (Fit N) u) (e : RQ u = RQ a) : afT (Ll N) u a := by
 obtain ⟨m, v⟩ := u
 obtain ⟨m', v'⟩ := a
 simp only [RQ, Field.mk.injEq] at e
 exact ⟨e.1, Lr N v v' hf e.2⟩
theorem aow : ∀ (N : Nat) (a b : Expr), sJ N a → FR a = FR b → Kz N a b := by
 intro N
 induction N with
 | zero => intro a b h; exact absurd h (by obtain ⟨_, _, _, ⟨_, _⟩, ⟨_, _⟩, ⟨_, _⟩, _, ⟨_, _⟩, ⟨_, _⟩, _⟩ := a; simp [sJ])
 | succ N ih =>
  intro a b hf h
  obtain ⟨k1, n1, s1, ⟨a1, ax1⟩, ⟨ns1, nx1⟩, ⟨v1, vx1⟩, el1, ⟨ky1, kx1⟩, ⟨c1, cx1⟩, t1⟩ := a
  obtain ⟨k2, n2, s2, ⟨a2, ax2⟩, ⟨ns2, nx2⟩, ⟨v2, vx2⟩, el2, ⟨ky2, kx2⟩, ⟨c2, cx2⟩, t2⟩ := b
  simp only [FR, Xh, Fx, Expr.mk.injEq, Sl.mk.injEq, xW, rU, and_true] at h
  obtain ⟨rfl, rfl, rfl, h1, rfl, h2, rfl, h3, h4, rfl⟩ := h
  obtain ⟨⟨p1, p2⟩, p3, ⟨p4, p5⟩, ⟨p6, p7⟩, p8, p9⟩ := hf
  exact ⟨rfl, rfl, rfl, kZ h1 fun u hu a _ e => ih u a (p2 u hu) e, rfl, kZ h2 fun u hu a _ e => ih u a (p5 u hu) e, rfl, kZ h3 fun u hu a _ e => ih u a (p7 u hu) e, kZ h4 fun u hu a _ e => by
   have := p9 u hu
   obtain ⟨k, m, v⟩ := u
   obtain ⟨k', m', v'⟩ := a
   simp only [Sn, Act.mk.injEq] at e
   exact ⟨e.1, e.2.1, ih v v' this e.2.2⟩, rfl⟩
theorem Xi {N : Nat} {u a : Act} (hf : Mx (sJ N) u) (e : Sn u = Sn a) : acM (Kz N) u a := by
 obtain ⟨k, m, v⟩ := u
 obtain ⟨k', m', v'⟩ := a
 simp only [Sn, Act.mk.injEq] at e
 exact ⟨e.1, e.2.1, aow N v v' hf e.2.2⟩
theorem aox {N : Nat} {a b : Cell} (hf : zN N a) (h : cpC a = cpC b) : avf N a b := by
 obtain ⟨k, m, v, u, ⟨ds, dx⟩, ⟨do_, dox⟩, ⟨un, unx⟩, ⟨en, enx⟩, r1, r2, ⟨od, odx⟩, ⟨pa, pax⟩⟩ := a
 obtain ⟨k', m', v', u', ⟨ds', dx'⟩, ⟨aAc, ayD⟩, ⟨un', ayE⟩, ⟨en', ayF⟩, r1', r2', ⟨od', ayG⟩, ⟨pa', ayH⟩⟩ := b
 simp only [cpC, cpS, cpG, Fx, Cell.mk.injEq, Sl.mk.injEq, rQ, rR, rU, and_true] at h
 obtain ⟨rfl, rfl, h1, h2, h3, h4, h5, h6, rfl, rfl, h7, h8⟩ := h
 obtain ⟨f1, f2, f3, f4, f5, f6, f7, f8⟩ := hf
 exact ⟨rfl, rfl, Lr N _ _ f1 h1, Lr N _ _ f2 h2, kZ h3 fun u hu a _ e => Lr N u a (f3.2 u hu) e, kZ h4 fun u hu a _ e => Xi (f4.2 u hu) e, kZ h5 fun u hu a _ e => Xi (f5.2 u hu) e,
  kZ h6 fun u hu a _ e => afa (f6.2 u hu) e, rfl, rfl, kZ h7 fun u hu a _ e => Xi (f7.2 u hu) e, kZ h8 fun u hu a _ e => afa (f8.2 u hu) e⟩
theorem aae {N : Nat} {a b : Child} (hf : Fit N a.jN) (h : CK a = CK b) : alr N a b := by
 obtain ⟨k, d, m, v⟩ := a
 obtain ⟨k', d', m', v'⟩ := b
 simp only [CK, Child.mk.injEq] at h
 exact ⟨h.1, h.2.1, h.2.2.1, Lr N _ _ hf h.2.2.2⟩
def jH : Nat → Inst → Prop
 | 0, _ => False
 | N + 1, .mk _ c s o k _ _ _ e _ _ p _ _ => Fit N c.jN ∧ (s.l.length * 400 ≤ reachBytes ∧ ∀ x ∈ s.l, zN N x) ∧ (o.l.length * 152 ≤ reachBytes ∧ ∀ x ∈ o.l, Fit N x.jN) ∧ Fit N e ∧
   (k.l.length * 416 ≤ reachBytes ∧ ∀ x ∈ k.l, jH N x) ∧ (p.l.length * 416 ≤ reachBytes ∧ ∀ x ∈ p.l, jH N x)
theorem oZ : ∀ (N M : Nat) (v : Value), N ≤ M → Fit N v → Fit M v := by
 intro N
 induction N with
 | zero => intro M v _ h; exact absurd h (by obtain ⟨_, _, _, ⟨_, _⟩, ⟨_, _⟩, _, _, _⟩ := v; simp [Fit])
 | succ N ih =>
  intro M v hM h
  obtain ⟨M, rfl⟩ : ∃ m, M = m + 1 := ⟨M - 1, by omega⟩
  obtain ⟨k, n, s, ⟨l, x⟩, ⟨f, y⟩, e, c, b⟩ := v
  obtain ⟨⟨p1, p2⟩, p3, p4⟩ := h
  exact ⟨⟨p1, fun u hu => ih M u (by omega) (p2 u hu)⟩, p3, fun u hu => by
   have := p4 u hu
   obtain ⟨m, v⟩ := u
   exact ih M v (by omega) this⟩
theorem Ub {N M : Nat} {v : Field} (hM : N ≤ M) (h : RP (Fit N) v) : RP (Fit M) v := by
 obtain ⟨m, v⟩ := v
 exact oZ N M v hM h
theorem afZ : ∀ (N M : Nat) (v : Expr), N ≤ M → sJ N v → sJ M v := by
 intro N
 induction N with
 | zero => intro M v _ h; exact absurd h (by obtain ⟨_, _, _, ⟨_, _⟩, ⟨_, _⟩, ⟨_, _⟩, _, ⟨_, _⟩, ⟨_, _⟩, _⟩ := v; simp [sJ])
 | succ N ih =>
  intro M v hM h
  obtain ⟨M, rfl⟩ : ∃ m, M = m + 1 := ⟨M - 1, by omega⟩
  obtain ⟨k1, n1, s1, ⟨a1, ax1⟩, ⟨ns1, nx1⟩, ⟨v1, vx1⟩, el1, ⟨ky1, kx1⟩, ⟨c1, cx1⟩, t1⟩ := v
  obtain ⟨⟨p1, p2⟩, p3, ⟨p4, p5⟩, ⟨p6, p7⟩, p8, p9⟩ := h
  exact ⟨⟨p1, fun u hu => ih M u (by omega) (p2 u hu)⟩, p3, ⟨p4, fun u hu => ih M u (by omega) (p5 u hu)⟩, ⟨p6, fun u hu => ih M u (by omega) (p7 u hu)⟩, p8, fun u hu => by
   have := p9 u hu
   obtain ⟨k, m, v⟩ := u
   exact ih M v (by omega) this⟩
theorem Ls {N M : Nat} {v : Act} (hM : N ≤ M) (h : Mx (sJ N) v) : Mx (sJ M) v := by
 obtain ⟨k, m, v⟩ := v
 exact afZ N M v hM h
theorem Uc {N M : Nat} {c : Cell} (hM : N ≤ M) (h : zN N c) : zN M c := by
 obtain ⟨f1, f2, f3, f4, f5, f6, f7, f8⟩ := h
 exact ⟨oZ N M _ hM f1, oZ N M _ hM f2, ⟨f3.1, fun u hu => oZ N M u hM (f3.2 u hu)⟩, ⟨f4.1, fun u hu => Ls hM (f4.2 u hu)⟩, ⟨f5.1, fun u hu => Ls hM (f5.2 u hu)⟩,
  ⟨f6.1, fun u hu => Ub hM (f6.2 u hu)⟩, ⟨f7.1, fun u hu => Ls hM (f7.2 u hu)⟩, ⟨f8.1, fun u hu => Ub hM (f8.2 u hu)⟩⟩
theorem Fq : ∀ (N M : Nat) (v : Inst), N ≤ M → jH N v → jH M v := by
 intro N
 induction N with
 | zero => intro M v _ h; exact absurd h (by obtain ⟨_, ⟨_, _, _, ⟨_, _, _, ⟨_, _⟩, ⟨_, _⟩, _, _, _⟩⟩, ⟨_, _⟩, ⟨_, _⟩, ⟨_, _⟩, _, _, _, ⟨_, _, _, ⟨_, _⟩, ⟨_, _⟩, _, _, _⟩, _, _, ⟨_, _⟩, _, _⟩ := v; simp [jH])
 | succ N ih =>
  intro M v hM h
  obtain ⟨M, rfl⟩ : ∃ m, M = m + 1 := ⟨M - 1, by omega⟩
  obtain ⟨d, c, s, o, k, n, f, b, e, w, h', p, r, q⟩ := v
  obtain ⟨h1, ⟨h2, h3⟩, ⟨h4, h5⟩, h6, ⟨h7, h8⟩, h9, h10⟩ := h
  exact ⟨oZ N M _ (by omega) h1, ⟨h2, fun u hu => Uc (by omega) (h3 u hu)⟩, ⟨h4, fun u hu => oZ N M _ (by omega) (h5 u hu)⟩, oZ N M _ (by omega) h6, ⟨h7, fun u hu => ih M u (by omega) (h8 u hu)⟩, h9, fun u hu => ih M u (by omega) (h10 u hu)⟩
theorem H7 : ∀ (N : Nat) (v : Value), Fit N v → Fit N (cp v) := by
 intro N
 induction N with
 | zero => intro v h; exact absurd h (by obtain ⟨_, _, _, ⟨_, _⟩, ⟨_, _⟩, _, _, _⟩ := v; simp [Fit])
 | succ N ih =>
  intro v h
  obtain ⟨k, n, s, ⟨l, x⟩, ⟨f, y⟩, e, c, b⟩ := v
  obtain ⟨⟨p1, p2⟩, p3, p4⟩ := h
  simp only [cp, cpS, cpG, rQ, rR]
  refine ⟨⟨by simpa using p1, fun u hu => ?_⟩, by simpa using p3, fun u hu => ?_⟩
  ·obtain ⟨t, ht, rfl⟩ := List.mem_map.1 hu; exact ih t (p2 t ht)
  ·obtain ⟨t, ht, rfl⟩ := List.mem_map.1 hu
   have := p4 t ht
   obtain ⟨m, v⟩ := t
   exact ih v this
theorem afb {N : Nat} {v : Field} (h : RP (Fit N) v) : RP (Fit N) (RQ v) := by
 obtain ⟨m, v⟩ := v
 exact H7 N v h
theorem aoy : ∀ (N : Nat) (v : Expr), sJ N v → sJ N (FR v) := by
 intro N
 induction N with
 | zero => intro v h; exact absurd h (by obtain ⟨_, _, _, ⟨_, _⟩, ⟨_, _⟩, ⟨_, _⟩, _, ⟨_, _⟩, ⟨_, _⟩, _⟩ := v; simp [sJ])
 | succ N ih =>
  intro v h
  obtain ⟨k1, n1, s1, ⟨a1, ax1⟩, ⟨ns1, nx1⟩, ⟨v1, vx1⟩, el1, ⟨ky1, kx1⟩, ⟨c1, cx1⟩, t1⟩ := v
  obtain ⟨⟨p1, p2⟩, p3, ⟨p4, p5⟩, ⟨p6, p7⟩, p8, p9⟩ := h
  simp only [FR, Xh, Fx, xW, rU]
  refine ⟨⟨by simpa using p1, fun u hu => ?_⟩, p3, ⟨by simpa using p4, fun u hu => ?_⟩, ⟨by simpa using p6, fun u hu => ?_⟩, by simpa using p8, fun u hu => ?_⟩
  ·obtain ⟨t, ht, rfl⟩ := List.mem_map.1 hu; exact ih t (p2 t ht)
  ·obtain ⟨t, ht, rfl⟩ := List.mem_map.1 hu; exact ih t (p5 t ht)
  ·obtain ⟨t, ht, rfl⟩ := List.mem_map.1 hu; exact ih t (p7 t ht)
  ·obtain ⟨t, ht, rfl⟩ := List.mem_map.1 hu
   have := p9 t ht
   obtain ⟨k, m, v⟩ := t
   exact ih v this
theorem Xj {N : Nat} {v : Act} (h : Mx (sJ N) v) : Mx (sJ N) (Sn v) := by
 obtain ⟨k, m, v⟩ := v
 exact aoy N v h
theorem zf {A : Type} {g : A → A} {p : A → Prop} {l : List A} {z : Nat} (h : l.length * z ≤ reachBytes ∧ ∀ x ∈ l, p x) (hg : ∀ x ∈ l, p x → p (g x)) : (l.map g).length * z ≤ reachBytes ∧ ∀ x ∈ l.map g, p x := by
 refine ⟨by simpa using h.1, fun u hu => ?_⟩
 obtain ⟨t, ht, rfl⟩ := List.mem_map.1 hu
 exact hg t ht (h.2 t ht)
theorem aoz {N : Nat} {c : Cell} (h : zN N c) : zN N (cpC c) := by
 obtain ⟨k, m, v, u, ⟨ds, dx⟩, ⟨do_, dox⟩, ⟨un, unx⟩, ⟨en, enx⟩, r1, r2, ⟨od, odx⟩, ⟨pa, pax⟩⟩ := c
 obtain ⟨f1, f2, f3, f4, f5, f6, f7, f8⟩ := h
 simp only [cpC, cpS, cpG, Fx, rQ, rR, rU]
 exact ⟨H7 N _ f1, H7 N _ f2, zf f3 fun x _ => H7 N x, zf f4 fun x _ => Xj, zf f5 fun x _ => Xj, zf f6 fun x _ => afb, zf f7 fun x _ => Xj, zf f8 fun x _ => afb⟩
theorem afc : ∀ (N : Nat) (v : Inst), jH N v → jH N (fF v) := by
 intro N
 induction N with
 | zero => intro v h; exact absurd h (by obtain ⟨_, ⟨_, _, _, ⟨_, _, _, ⟨_, _⟩, ⟨_, _⟩, _, _, _⟩⟩, ⟨_, _⟩, ⟨_, _⟩, ⟨_, _⟩, _, _, _, ⟨_, _, _, ⟨_, _⟩, ⟨_, _⟩, _, _, _⟩, _, _, ⟨_, _⟩, _, _⟩ := v; simp [jH])
 | succ N ih =>
  intro v h
  obtain ⟨d, c, s, o, ⟨k, kx⟩, n, f, b, e, w, h', ⟨p, px⟩, r, q⟩ := v
  obtain ⟨h1, h2, h3, h6, h4, h5⟩ := h
  simp only [fF, Lp, mZ]
  exact ⟨H7 N _ h1, zf h2 fun x _ => aoz, zf h3 fun x _ h => H7 N _ h, H7 N _ h6, zf h4 fun x _ => ih x, zf h5 fun x _ => ih x⟩
theorem aaf (v : Value) : cp (cp v) = cp v := by
 have : ∀ (N : Nat) (v : Value), SizeOf.sizeOf v ≤ N → cp (cp v) = cp v := by
  intro N
  induction N with
  | zero => intro v h; obtain ⟨_, _, _, ⟨_, _⟩, ⟨_, _⟩, _, _, _⟩ := v; simp only [Value.mk.sizeOf_spec] at h; omega
  | succ N ih =>
   intro v h
   obtain ⟨k, n, s, ⟨l, x⟩, ⟨f, y⟩, e, c, b⟩ := v
   simp only [cp, cpS, cpG, rQ, rR, List.map_map]
   rw [List.map_congr_left (l := l) (f := cp ∘ cp) (g := cp) fun u hu => ih u (by have := acI (k := k) (n := n) (s := s) (key := c) (lx := x) (f := ⟨f, y⟩) (e := e) (hk := b) hu; omega),
    List.map_congr_left (l := f) (f := RQ ∘ RQ) (g := RQ) fun u hu => by
     have := acJ (k := k) (n := n) (s := s) (key := c) (l := ⟨l, x⟩) (fx := y) (e := e) (hk := b) hu
     obtain ⟨m, v⟩ := u
     have := acK (m := m) (v := v)
     simp only [Function.comp, RQ, ih v (by omega)]]
 exact this _ v (Nat.le_refl _)
theorem avj (v : Field) : RQ (RQ v) = RQ v := by
 obtain ⟨m, v⟩ := v
 simp only [RQ, aaf]
theorem avk (v : Expr) : FR (FR v) = FR v := by
 have : ∀ (N : Nat) (v : Expr), SizeOf.sizeOf v ≤ N → FR (FR v) = FR v := by
  intro N
  induction N with
  | zero => intro v h; obtain ⟨_, _, _, ⟨_, _⟩, ⟨_, _⟩, ⟨_, _⟩, _, ⟨_, _⟩, ⟨_, _⟩, _⟩ := v; simp only [Expr.mk.sizeOf_spec] at h; omega
  | succ N ih =>
   intro v h
   obtain ⟨k1, n1, s1, ⟨a1, ax1⟩, ⟨ns1, nx1⟩, ⟨v1, vx1⟩, el1, ⟨ky1, kx1⟩, ⟨c1, cx1⟩, t1⟩ := v
   simp only [Expr.mk.sizeOf_spec, Sl.mk.sizeOf_spec] at h
   simp only [FR, Xh, Fx, xW, rU, List.map_map]
   rw [List.map_congr_left (l := a1) (f := FR ∘ FR) (g := FR) fun u hu => ih u (by have := List.sizeOf_lt_of_mem hu; omega), List.map_congr_left (l := v1) (f := FR ∘ FR) (g := FR) fun u hu => ih u (by have := List.sizeOf_lt_of_mem hu; omega),
    List.map_congr_left (l := ky1) (f := FR ∘ FR) (g := FR) fun u hu => ih u (by have := List.sizeOf_lt_of_mem hu; omega), List.map_congr_left (l := c1) (f := Sn ∘ Sn) (g := Sn) fun u hu => by
     have := List.sizeOf_lt_of_mem hu
     obtain ⟨k, m, v⟩ := u
     simp only [Act.mk.sizeOf_spec] at this
     simp only [Function.comp, Sn, ih v (by omega)]]
 exact this _ v (Nat.le_refl _)
theorem avl (v : Act) : Sn (Sn v) = Sn v := by
 obtain ⟨k, m, v⟩ := v
 simp only [Sn, avk]
theorem avm (c : Cell) : cpC (cpC c) = cpC c := by
 obtain ⟨k, m, v, u, ⟨ds, dx⟩, ⟨do_, dox⟩, ⟨un, unx⟩, ⟨en, enx⟩, r1, r2, ⟨od, odx⟩, ⟨pa, pax⟩⟩ := c
 simp only [cpC, cpS, cpG, Fx, rQ, rR, rU, List.map_map, aaf]
 rw [show cp ∘ cp = cp from funext aaf, show RQ ∘ RQ = RQ from funext avj, show Sn ∘ Sn = Sn from funext avl]
theorem afd (c : Child) : CK (CK c) = CK c := by
 obtain ⟨k, d, m, v⟩ := c
 simp only [CK, aaf]
theorem uH (x : Inst) : iW (fF x) = iW x := by cases x; simp only [fF, iW]
theorem EN (x : Inst) : iC (fF x) = (iC x).map fF := by
 obtain ⟨d, c, s, o, ⟨k, kx⟩, n, f, b, e, w, h', ⟨p, px⟩, r, q⟩ := x
 simp only [fF, Lp, iC, mZ]
theorem zP (x : Inst) : fB (fF x) = (fB x).map fF := by
 obtain ⟨d, c, s, o, ⟨k, kx⟩, n, f, b, e, w, h', ⟨p, px⟩, r, q⟩ := x
 simp only [fF, Lp, fB, mZ]
theorem acO (x : Inst) (k s : List Inst) : fF (wK x k s) = wK (fF x) (k.map fF) (s.map fF) := by
 obtain ⟨d, c, s, o, ⟨k, kx⟩, n, f, b, e, w, h', ⟨p, px⟩, r, q⟩ := x
 simp only [wK, fF, Lp, mZ]
theorem afe (x : Inst) : wK (fF x) (iC (fF x)) (fB (fF x)) = fF x := by
 obtain ⟨d, c, s, o, ⟨k, kx⟩, n, f, b, e, w, h', ⟨p, px⟩, r, q⟩ := x
 simp only [wK, fF, Lp, mZ, iC, fB]
theorem Lu : ∀ x, fF (fF x) = fF x := by
 refine EL fun x hk hs => ?_
 obtain ⟨d, c, s, o, ⟨k, kx⟩, n, f, b, e, w, h', ⟨p, px⟩, r, q⟩ := x
 simp only [fF, Lp, mZ, List.map_map, aaf, afd]
 rw [show cpC ∘ cpC = cpC from funext avm, show CK ∘ CK = CK from funext afd, List.map_congr_left (l := k) (f := fF ∘ fF) (g := fF) hk, List.map_congr_left (l := p) (f := fF ∘ fF) (g := fF) hs]
theorem uo : ∀ x, nodes (fF x) = (nodes x).map fF := by
 refine EL fun x hk hs => ?_
 rw [mF, mF x, EN, zP, List.flatMap_map, List.flatMap_map, gV (l := iC x) hk, gV (l := fB x) hs]
 simp only [List.map_cons, List.map_append, List.map_flatMap]
theorem aff (x : Inst) : nums (fF x) = nums x := by
 rw [nums, uo, List.map_map, nums]
 exact List.map_congr_left fun y _ => uH y
theorem Xk {y : Inst} : ∀ x, fF (sub y x) = sub (fF y) (fF x) := by
 refine EL fun x hk hs => ?_
 by_cases e : iW x = iW y
 ·rw [xV e, xV (by rw [uH, uH]; exact e)]
 ·rw [rT e, rT (by rw [uH, uH]; exact e), acO, EN, zP]
  simp only [List.map_map]
  rw [List.map_congr_left (l := iC x) (f := fF ∘ sub y) hk, List.map_congr_left (l := fB x) (f := fF ∘ sub y) hs]
  rfl
theorem avn : ∀ (d : Nat) (x : Inst), low d (fF x) ↔ low d x := by
 intro d
 induction d with
 | zero => intro x; exact Iff.rfl
 | succ d ih =>
  intro x
  simp only [low, EN, zP, List.forall_mem_map, ih]
theorem afg {f : Inst} : ∀ x, iW f ∉ nums x → fF (sub f x) = fF x := by
 refine EL fun x hk hs h => ?_
 have h0 := fun q => h (RS.2 q)
 rw [rT (fun q => h0 (.inl q.symm)), acO, List.map_map, List.map_map, List.map_congr_left (l := iC x) (f := fF ∘ sub f) (g := fF) fun y hy => hk y hy fun q => h0 (.inr (.inl ⟨y, hy, q⟩)),
  List.map_congr_left (l := fB x) (f := fF ∘ sub f) (g := fF) fun y hy => hs y hy fun q => h0 (.inr (.inr ⟨y, hy, q⟩)), ← EN, ← zP, afe]
theorem sub_self {f : Inst} : ∀ x, (nums x).Nodup → f ∈ nodes x → fF (sub f x) = fF x := by
 refine EL fun x hk hs nd hf => ?_
 have hd := Co hf
 by_cases e : iW x = iW f
 ·rw [xV e]
  rcases iD.1 hf with rfl | ⟨y, hy, h⟩ | ⟨y, hy, h⟩
  ·rfl
  ·rw [kE] at nd
   exact absurd (List.mem_append_left _ (List.mem_flatMap.2 ⟨y, hy, e ▸ Co h⟩)) (List.nodup_cons.1 nd).1
  ·rw [kE] at nd
   exact absurd (List.mem_append_right _ (List.mem_flatMap.2 ⟨y, hy, e ▸ Co h⟩)) (List.nodup_cons.1 nd).1
 ·have hx : ∀ y, iW f ∉ nums y → fF (sub f y) = fF y := afg
  rw [kE] at nd
  obtain ⟨nk, ns, nx⟩ := List.nodup_append.1 (List.nodup_cons.1 nd).2
  have one : ∀ (l : List Inst), (l.flatMap nums).Nodup → (∀ y ∈ l, (nums y).Nodup → f ∈ nodes y → fF (sub f y) = fF y) → (iW f ∉ l.flatMap nums ∨ ∃ y ∈ l, f ∈ nodes y) → (l.map (sub f)).map fF = l.map fF := by
   intro l nd ih h
   rcases h with h | ⟨y, hy, h⟩
   ·rw [List.map_map]
    exact List.map_congr_left fun y hy => hx y fun q => h (List.mem_flatMap.2 ⟨y, hy, q⟩)
   ·obtain ⟨l1, l2, rfl⟩ := List.append_of_mem hy
    rw [List.flatMap_append, List.flatMap_cons] at nd
    obtain ⟨q1, q2, q3⟩ := List.nodup_append.1 nd
    obtain ⟨q4, q5, q6⟩ := List.nodup_append.1 q2
    have hd := Co h
    simp only [List.map_append, List.map_cons, List.map_map]
    rw [ih y (by simp) q4 h, List.map_congr_left (l := l1) (f := fF ∘ sub f) (g := fF) fun z hz => hx z fun q => q3 _ (List.mem_flatMap.2 ⟨z, hz, q⟩) _ (List.mem_append_left _ hd) rfl,
     List.map_congr_left (l := l2) (f := fF ∘ sub f) (g := fF) fun z hz => hx z fun q => q6 _ hd _ (List.mem_flatMap.2 ⟨z, hz, q⟩) rfl]
  have k1 : ((iC x).map (sub f)).map fF = (iC x).map fF := one _ nk hk (by
   rcases iD.1 hf with rfl | h | ⟨y, hy, h⟩
   ·exact absurd rfl e
   ·exact .inr h
   ·exact .inl fun q => nx _ q _ (List.mem_flatMap.2 ⟨y, hy, Co h⟩) rfl)
  have k2 : ((fB x).map (sub f)).map fF = (fB x).map fF := one _ ns hs (by
   rcases iD.1 hf with rfl | ⟨y, hy, h⟩ | h
   ·exact absurd rfl e
   ·exact .inl fun q => nx _ (List.mem_flatMap.2 ⟨y, hy, Co h⟩) _ q rfl
   ·exact .inr h)
  rw [rT e, acO, k1, k2, ← EN, ← zP, afe]
theorem aag {A : Type} {g : A → A} {h : A → Option A} {l : List A} (hn : l.length ≤ 8796093022208) (hp : ∀ v ∈ l, h v = some (g v)) : wl (rP h l) (l, 0) = some (l.map g, (l.length : Int)) := by
 obtain ⟨o, w1, w2, w3⟩ := map_ok (h := h) (r := l) (fun t a => t = g a) hn (fun v hv => ⟨_, hp v hv, rfl⟩)
 rw [w1, acL w2 w3]
theorem aoA (fu : Nat) (p : Expr → Option Expr) (r : List Expr) : M0 fu p r = rP p r := by
 funext q
 obtain ⟨o, i⟩ := q
 unfold M0 rP
 dsimp only
 cases decide (i < ln r)
 ·rfl
 ·cases idx o i with
  | none => rfl
  | some x =>
   obtain ⟨_, _, _, ⟨_, _⟩, ⟨_, _⟩, ⟨_, _⟩, _, ⟨_, _⟩, ⟨_, _⟩, _⟩ := x
   simp only [cond_true, Option.bind_some]
   cases p _ with
   | none => rfl
   | some t => obtain ⟨_, _, _, ⟨_, _⟩, ⟨_, _⟩, ⟨_, _⟩, _, ⟨_, _⟩, ⟨_, _⟩, _⟩ := t; rfl
theorem aoB (fu : Nat) (p : Act → Option Act) (r : List Act) : MR fu p r = rP p r := by
 funext q
 obtain ⟨o, i⟩ := q
 unfold MR rP
 dsimp only
 cases decide (i < ln r)
 ·rfl
 ·cases idx o i with
  | none => rfl
  | some x =>
   obtain ⟨_, _, ⟨_, _, _, ⟨_, _⟩, ⟨_, _⟩, ⟨_, _⟩, _, ⟨_, _⟩, ⟨_, _⟩, _⟩⟩ := x
   simp only [cond_true, Option.bind_some]
   cases p _ with
   | none => rfl
   | some t => obtain ⟨_, _, ⟨_, _, _, ⟨_, _⟩, ⟨_, _⟩, ⟨_, _⟩, _, ⟨_, _⟩, ⟨_, _⟩, _⟩⟩ := t; rfl
theorem aoC (fu : Nat) (p : Cell → Option Cell) (r : List Cell) : Vs fu p r = rP p r := by
 funext q
 obtain ⟨o, i⟩ := q
 unfold Vs rP
 dsimp only
 cases decide (i < ln r)
 ·rfl
 ·cases idx o i with
  | none => rfl
  | some x =>
   obtain ⟨_, _, ⟨_, _, _, ⟨_, _⟩, ⟨_, _⟩, _, _, _⟩, ⟨_, _, _, ⟨_, _⟩, ⟨_, _⟩, _, _, _⟩, ⟨_, _⟩, ⟨_, _⟩, ⟨_, _⟩, ⟨_, _⟩, _, _, ⟨_, _⟩, ⟨_, _⟩⟩ := x
   simp only [cond_true, Option.bind_some]
   cases p _ with
   | none => rfl
   | some t => obtain ⟨_, _, ⟨_, _, _, ⟨_, _⟩, ⟨_, _⟩, _, _, _⟩, ⟨_, _, _, ⟨_, _⟩, ⟨_, _⟩, _, _, _⟩, ⟨_, _⟩, ⟨_, _⟩, ⟨_, _⟩, ⟨_, _⟩, _, _, ⟨_, _⟩, ⟨_, _⟩⟩ := t; rfl
theorem alz (fu : Nat) (p : Child → Option Child) (r : List Child) : VJ fu p r = rP p r := by
 funext q
 obtain ⟨o, i⟩ := q
 unfold VJ rP
 dsimp only
 cases decide (i < ln r)
 ·rfl
 ·cases idx o i with
  | none => rfl
  | some x =>
   obtain ⟨_, _, _, ⟨_, _, _, ⟨_, _⟩, ⟨_, _⟩, _, _, _⟩⟩ := x
   simp only [cond_true, Option.bind_some]
   cases p _ with
   | none => rfl
   | some t => obtain ⟨_, _, _, ⟨_, _, _, ⟨_, _⟩, ⟨_, _⟩, _, _, _⟩⟩ := t; rfl
theorem aoD (fu : Nat) (p : Inst → Option Inst) (r : List Inst) : VK fu p r = rP p r := by
 funext q
 obtain ⟨o, i⟩ := q
 unfold VK rP
 dsimp only
 cases decide (i < ln r)
 ·rfl
 ·cases idx o i with
  | none => rfl
  | some x =>
   obtain ⟨_, ⟨_, _, _, ⟨_, _, _, ⟨_, _⟩, ⟨_, _⟩, _, _, _⟩⟩, ⟨_, _⟩, ⟨_, _⟩, ⟨_, _⟩, _, _, _, ⟨_, _, _, ⟨_, _⟩, ⟨_, _⟩, _, _, _⟩, _, _, ⟨_, _⟩, _, _⟩ := x
   simp only [cond_true, Option.bind_some]
   cases p _ with
   | none => rfl
   | some t => obtain ⟨_, ⟨_, _, _, ⟨_, _, _, ⟨_, _⟩, ⟨_, _⟩, _, _, _⟩⟩, ⟨_, _⟩, ⟨_, _⟩, ⟨_, _⟩, _, _, _, ⟨_, _, _, ⟨_, _⟩, ⟨_, _⟩, _, _, _⟩, _, _, ⟨_, _⟩, _, _⟩ := t; rfl
theorem avo (fu : Nat) (l : List ByteArray) (x : Option (List ByteArray)) : amW fu ⟨l, x⟩ = ze 16 l := rfl
theorem avp (fu : Nat) (l : List Expr) (x : Option (List Expr)) : amU fu ⟨l, x⟩ = ze 176 l := rfl
theorem avq (fu : Nat) (l : List Act) (x : Option (List Act)) : amS fu ⟨l, x⟩ = ze 200 l := rfl
theorem avr (fu : Nat) (l : List Cell) (x : Option (List Cell)) : P94 fu ⟨l, x⟩ = ze 400 l := rfl
theorem aoE (fu : Nat) (l : List Child) (x : Option (List Child)) : P97 fu ⟨l, x⟩ = ze 152 l := rfl
theorem alA (fu : Nat) (l : List Inst) (x : Option (List Inst)) : P34 fu ⟨l, x⟩ = ze 416 l := rfl
theorem alB {n : Nat} {l : List Expr} {x : Option (List Expr)} (h1 : l.length * 176 ≤ reachBytes) (h : ∀ v ∈ l, Qp n v = some (FR v)) : abD (n + 1) ⟨l, x⟩ = some ⟨l.map FR, none⟩ := by
 rw [abD.eq_2]
 unfold ad6 amV
 dsimp only
 rw [avp, rO (E9 := 176) (k := 176) rfl h1]
 dsimp only [Option.bind_some]
 rw [aoA, aag (dX (by omega) h1) h]
 rfl
theorem aAd {n : Nat} {q : Act} (h : Mx (fun e => Qp n e = some (FR e)) q) : abC (n + 1) q = some (Sn q) := by
 obtain ⟨k, m, e⟩ := q
 have h : Qp n e = some (FR e) := h
 rw [Sn]
 revert h
 generalize FR e = t
 intro h
 obtain ⟨_, _, _, ⟨_, _⟩, ⟨_, _⟩, ⟨_, _⟩, _, ⟨_, _⟩, ⟨_, _⟩, _⟩ := e
 obtain ⟨_, _, _, ⟨_, _⟩, ⟨_, _⟩, ⟨_, _⟩, _, ⟨_, _⟩, ⟨_, _⟩, _⟩ := t
 rw [abC.eq_2]
 unfold ad4
 dsimp only
 rw [h]
 rfl
theorem arl {n : Nat} {l : List Act} {x : Option (List Act)} (h1 : l.length * 200 ≤ reachBytes) (h : ∀ q ∈ l, Mx (fun e => Qp n e = some (FR e)) q) : Mv (n + 2) ⟨l, x⟩ = some ⟨l.map Sn, none⟩ := by
 rw [Mv.eq_2]
 unfold ad3 amT
 dsimp only
 rw [avq, rO (E9 := 200) (k := 200) rfl h1]
 dsimp only [Option.bind_some]
 rw [aoB, aag (dX (by omega) h1) fun q hq => aAd (h q hq)]
 rfl
theorem aAe : ∀ (N n : Nat) (e : Expr), sJ N e → 3 * N ≤ n → Qp n e = some (FR e) := by
 intro N
 induction N with
 | zero => intro n v h; exact absurd h (by obtain ⟨_, _, _, ⟨_, _⟩, ⟨_, _⟩, ⟨_, _⟩, _, ⟨_, _⟩, ⟨_, _⟩, _⟩ := v; simp [sJ])
 | succ N ih =>
  intro n e h hn
  obtain ⟨n', rfl⟩ : ∃ n', n = n' + 3 := ⟨n - 3, by omega⟩
  obtain ⟨k1, n1, s1, ⟨a1, ax1⟩, ⟨ns1, nx1⟩, ⟨v1, vx1⟩, el1, ⟨ky1, kx1⟩, ⟨c1, cx1⟩, t1⟩ := e
  obtain ⟨⟨p1, p2⟩, p3, ⟨p4, p5⟩, ⟨p6, p7⟩, p8, p9⟩ := h
  have g1 := alB (n := n' + 1) (x := ax1) p1 fun e he => ih (n' + 1) e (p2 e he) (by omega)
  have g2 := alB (n := n' + 1) (x := vx1) p4 fun e he => ih (n' + 1) e (p5 e he) (by omega)
  have g3 := alB (n := n' + 1) (x := kx1) p6 fun e he => ih (n' + 1) e (p7 e he) (by omega)
  have g4 := arl (n := n') (x := cx1) p8 fun q hq => by
   have := p9 q hq
   obtain ⟨k, m, e⟩ := q
   exact ih n' e this (by omega)
  rw [Qp.eq_2]
  unfold ad5
  dsimp only
  rw [g1, g2, g3, g4, avo, rO (E9 := 16) (k := 16) rfl p3, FR, Xh, Xh, Xh, Fx, xW, xW, xW, rU]
  rfl
theorem ayI {N n : Nat} {l : Sl Value} (h : alp N l) (hn : 3 * N + 1 ≤ n) : P88 n l = some (cpS l) := by
 obtain ⟨n', rfl⟩ : ∃ n', n = n' + 1 := ⟨n - 1, by omega⟩
 obtain ⟨l, x⟩ := l
 rw [cpS, rQ]
 exact ari h.1 fun v hv => (afW N n' v (h.2 v hv) (by omega)).1
theorem arn {N n : Nat} {l : Sl Field} (h : aac N l) (hn : 3 * N + 2 ≤ n) : P89 n l = some (cpG l) := by
 obtain ⟨n', rfl⟩ : ∃ n', n = n' + 2 := ⟨n - 2, by omega⟩
 obtain ⟨l, x⟩ := l
 rw [cpG, rR]
 refine arj h.1 fun q hq => ?_
 have := h.2 q hq
 obtain ⟨m, v⟩ := q
 exact (afW N n' v this (by omega)).1
theorem alC {N n : Nat} {l : Sl Act} (h : Ua N l) (hn : 3 * N + 2 ≤ n) : Mv n l = some (Fx l) := by
 obtain ⟨n', rfl⟩ : ∃ n', n = n' + 2 := ⟨n - 2, by omega⟩
 obtain ⟨l, x⟩ := l
 rw [Fx, rU]
 refine arl h.1 fun q hq => ?_
 have := h.2 q hq
 obtain ⟨k, m, v⟩ := q
 exact aAe N n' v this (by omega)
theorem aAf {N n : Nat} {c : Cell} (h : zN N c) (hn : 3 * N + 2 ≤ n) : P86 n c = some (cpC c) := by
 obtain ⟨k, m, v, u, ds, do_, un, en, r1, r2, od, pa⟩ := c
 obtain ⟨f1, f2, f3, f4, f5, f6, f7, f8⟩ := h
 dsimp only at f1 f2 f3 f4 f5 f6 f7 f8
 have g1 := (afW N n v f1 (by omega)).1
 have g2 := (afW N n u f2 (by omega)).1
 have g3 := ayI f3 (n := n) (by omega)
 have g4 := alC f4 (n := n) (by omega)
 have g5 := alC f5 (n := n) (by omega)
 have g6 := arn f6 (n := n) (by omega)
 have g7 := alC f7 (n := n) (by omega)
 have g8 := arn f8 (n := n) (by omega)
 simp only [cpC]
 clear f1 f2 f3 f4 f5 f6 f7 f8
 revert g1 g2 g3 g4 g5 g6 g7 g8
 generalize cp v = v', cp u = u', cpS ds = ds', Fx do_ = do', Fx un = un', cpG en = en', Fx od = od', cpG pa = pa'
 intro g1 g2 g3 g4 g5 g6 g7 g8
 obtain ⟨_, _, _, ⟨_, _⟩, ⟨_, _⟩, _, _, _⟩ := v
 obtain ⟨_, _, _, ⟨_, _⟩, ⟨_, _⟩, _, _, _⟩ := u
 obtain ⟨_, _, _, ⟨_, _⟩, ⟨_, _⟩, _, _, _⟩ := v'
 obtain ⟨_, _, _, ⟨_, _⟩, ⟨_, _⟩, _, _, _⟩ := u'
 obtain ⟨_, _⟩ := ds
 obtain ⟨_, _⟩ := do_
 obtain ⟨_, _⟩ := un
 obtain ⟨_, _⟩ := en
 obtain ⟨_, _⟩ := od
 obtain ⟨_, _⟩ := pa
 unfold P86
 dsimp only
 rw [g1, g2, g3, g4, g5, g6, g7, g8]
 rfl
theorem aro {N n : Nat} {c : Child} (h : Fit N c.jN) (hn : 3 * N ≤ n) : P62 n c = some (CK c) := by
 obtain ⟨k, d, m, v⟩ := c
 have g1 := (afW N n v h (by omega)).1
 simp only [CK]
 clear h
 revert g1
 generalize cp v = v'
 intro g1
 obtain ⟨_, _, _, ⟨_, _⟩, ⟨_, _⟩, _, _, _⟩ := v
 obtain ⟨_, _, _, ⟨_, _⟩, ⟨_, _⟩, _, _, _⟩ := v'
 unfold P62
 dsimp only
 rw [g1]
 rfl
theorem ayJ {N n : Nat} {l : List Cell} {x : Option (List Cell)} (h : l.length * 400 ≤ reachBytes ∧ ∀ c ∈ l, zN N c) (hn : 3 * N + 2 ≤ n) : P63 n ⟨l, x⟩ = some ⟨l.map cpC, none⟩ := by
 unfold P63 P85
 dsimp only
 rw [avr, rO (E9 := 400) (k := 400) rfl h.1]
 dsimp only [Option.bind_some]
 rw [aoC, aag (dX (by omega) h.1) fun c hc => aAf (h.2 c hc) hn]
 rfl
theorem avs {N n : Nat} {l : List Child} {x : Option (List Child)} (h : l.length * 152 ≤ reachBytes ∧ ∀ c ∈ l, Fit N c.jN) (hn : 3 * N ≤ n) : P64 n ⟨l, x⟩ = some ⟨l.map CK, none⟩ := by
 unfold P64 P87
 dsimp only
 rw [aoE, rO (E9 := 152) (k := 152) rfl h.1]
 dsimp only [Option.bind_some]
 rw [alz, aag (dX (by omega) h.1) fun c hc => aro (h.2 c hc) hn]
 rfl
theorem arp {n : Nat} {l : List Inst} {x : Option (List Inst)} (h1 : l.length * 416 ≤ reachBytes) (h : ∀ v ∈ l, P31 n v = some (fF v)) : P42 (n + 1) ⟨l, x⟩ = some ⟨l.map fF, none⟩ := by
 rw [P42.eq_2]
 unfold amY P69
 dsimp only
 rw [alA, rO (E9 := 416) (k := 416) rfl h1]
 dsimp only [Option.bind_some]
 rw [aoD, aag (dX (by omega) h1) h]
 rfl
theorem ayK : ∀ (N n : Nat) (x : Inst), jH N x → 3 * N + 2 ≤ n → P31 n x = some (fF x) := by
 intro N
 induction N with
 | zero => intro n v h; exact absurd h (by obtain ⟨_, ⟨_, _, _, ⟨_, _, _, ⟨_, _⟩, ⟨_, _⟩, _, _, _⟩⟩, ⟨_, _⟩, ⟨_, _⟩, ⟨_, _⟩, _, _, _, ⟨_, _, _, ⟨_, _⟩, ⟨_, _⟩, _, _, _⟩, _, _, ⟨_, _⟩, _, _⟩ := v; simp [jH])
 | succ N ih =>
  intro n x h hn
  obtain ⟨n', rfl⟩ : ∃ n', n = n' + 2 := ⟨n - 2, by omega⟩
  obtain ⟨d, c, ⟨s, sx⟩, ⟨o, ox⟩, ⟨k, kx⟩, nd, f, b, e, w, h', ⟨p, px⟩, r, q⟩ := x
  obtain ⟨h1, h2, h3, h6, h4, h5⟩ := h
  have g1 := aro h1 (n := n' + 1) (by omega)
  have g2 := ayJ (x := sx) h2 (n := n' + 1) (by omega)
  have g3 := avs (x := ox) h3 (n := n' + 1) (by omega)
  have g4 := (afW N (n' + 1) e h6 (by omega)).1
  have g5 := arp (n := n') (x := kx) h4.1 fun v hv => ih n' v (h4.2 v hv) (by omega)
  have g6 := arp (n := n') (x := px) h5.1 fun v hv => ih n' v (h5.2 v hv) (by omega)
  rw [fF, Lp, Lp, mZ, mZ]
  clear h1 h2 h3 h4 h5 h6
  revert g1 g4
  generalize CK c = c', cp e = e'
  intro g1 g4
  obtain ⟨_, _, _, ⟨_, _, _, ⟨_, _⟩, ⟨_, _⟩, _, _, _⟩⟩ := c
  obtain ⟨_, _, _, ⟨_, _⟩, ⟨_, _⟩, _, _, _⟩ := e
  obtain ⟨_, _, _, ⟨_, _, _, ⟨_, _⟩, ⟨_, _⟩, _, _, _⟩⟩ := c'
  obtain ⟨_, _, _, ⟨_, _⟩, ⟨_, _⟩, _, _, _⟩ := e'
  rw [P31.eq_2]
  unfold amX
  dsimp only
  rw [g1, g2, g3, g4, g5, g6]
  rfl
theorem alD : ∀ (N n : Nat) (a b : Inst), jH N a → fF a = fF b → 3 * N + 2 ≤ n → P12 n a b = some true := by
 intro N
 induction N with
 | zero => intro n v _ h; exact absurd h (by obtain ⟨_, ⟨_, _, _, ⟨_, _, _, ⟨_, _⟩, ⟨_, _⟩, _, _, _⟩⟩, ⟨_, _⟩, ⟨_, _⟩, ⟨_, _⟩, _, _, _, ⟨_, _, _, ⟨_, _⟩, ⟨_, _⟩, _, _, _⟩, _, _, ⟨_, _⟩, _, _⟩ := v; simp [jH])
 | succ N ih =>
  intro n x y h he hn
  obtain ⟨n', rfl⟩ : ∃ n', n = n' + 2 := ⟨n - 2, by omega⟩
  obtain ⟨d, c, ⟨s, sx⟩, ⟨o, ox⟩, ⟨k, kx⟩, nd, f, b, e, w, h', ⟨p, px⟩, r, q⟩ := x
  obtain ⟨d', c', ⟨s', sx'⟩, ⟨o', ox'⟩, ⟨k', kx'⟩, nd', f', b', e', w', h'', ⟨p', px'⟩, r', q'⟩ := y
  obtain ⟨h1, h2, h3, h6, h4, h5⟩ := h
  simp only [fF, Lp, mZ, Inst.mk.injEq, Sl.mk.injEq, and_true] at he
  obtain ⟨rfl, e1, e2, e3, e4, rfl, rfl, rfl, e5, rfl, rfl, e6, rfl, rfl⟩ := he
  have row : ∀ (l m : List Inst) (x y : Option (List Inst)), l.map fF = m.map fF → l.length * 416 ≤ reachBytes → (∀ e ∈ l, jH N e) → P40 (n' + 1) ⟨l, x⟩ ⟨m, y⟩ = some true := by
   intro l m x y h q1 q2
   have u1 : l.length = m.length := by simpa using congrArg List.length h
   have hl := dX (by omega) q1
   have e1 : (ln l == ln m) = true := by simp [ln, u1]
   rw [P40.eq_2]
   simp only [anb, avi, e1, Bool.not_true, cond_false]
   rw [(xU (a := l) (b := m) (p := P12 n') rfl u1.symm (by omega) (fun i x y hx hy => ih n' x y (q2 _ (List.mem_of_getElem? hx)) (by
    have := congrArg (fun l => l[i]?) h
    simpa [List.getElem?_map, hx, hy] using this) (by omega))).use (t := some true) (f := some false) (fun _ => rfl) (fun _ => rfl)]
   rfl
  have g1 := ae9 (aae h1 e1) h1 (n := n' + 1) (by omega)
  have g2 := aou (x := sx) (y := sx') (kZ e2 fun u hu a _ e => aox (h2.2 u hu) e) h2.1 h2.2 (n := n' + 1) (by omega)
  have g3 := als (x := ox) (y := ox') (kZ e3 fun u hu a _ e => aae (h3.2 u hu) e) h3.1 h3.2 (n := n' + 1) (by omega)
  have g4 := row k k' kx kx' e4 h4.1 h4.2
  have g5 := vS N (n' + 1) e e' (Lr N _ _ h6 e5) h6 (by omega)
  have g6 := row p p' px px' e6 h5.1 h5.2
  clear h1 h2 h3 h4 h5 h6 e1 e5
  obtain ⟨_, _, _, ⟨_, _, _, ⟨_, _⟩, ⟨_, _⟩, _, _, _⟩⟩ := c
  obtain ⟨_, _, _, ⟨_, _⟩, ⟨_, _⟩, _, _, _⟩ := e
  obtain ⟨_, _, _, ⟨_, _, _, ⟨_, _⟩, ⟨_, _⟩, _, _, _⟩⟩ := c'
  obtain ⟨_, _, _, ⟨_, _⟩, ⟨_, _⟩, _, _, _⟩ := e'
  rw [P12.eq_2]
  unfold ana
  dsimp only
  simp only [beq_self_eq_true, nR, cond_true, g1, g2, g3, g4, g5, g6, Option.bind_some]
theorem vO (a b : Bool) : (bif a then some b else some false) = some (a && b) := by cases a <;> rfl
theorem mG {A : Type} (b : Bool) (x y : A) : (bif b then some x else some y) = some (bif b then x else y) := by cases b <;> rfl
def keyOf : Inst → ByteArray | .mk _ c _ _ _ _ _ _ _ _ _ _ _ _ => c.Key
theorem aah (x : Inst) : keyOf (fF x) = keyOf x := by cases x; simp only [fF, keyOf, CK]
theorem alE (x : Inst) (k s : List Inst) : keyOf (wK x k s) = keyOf x := by cases x; rfl
noncomputable def aai (l : List ByteArray) : List (ByteArray × Bool) := l.foldl (fun m k => Jd m k true) []
noncomputable def aaj (l : List ByteArray) : Bool := decide ((l.length : Int) ≤ 4096) && (ln (aai l) == (l.length : Int))
theorem afh {fu : Nat} {l : List Inst} {x : Option (List Inst)} (hn : l.length ≤ 8796093022208) : P59 fu ⟨l, x⟩ = some (aaj (l.map keyOf)) := by
 unfold P59
 dsimp only
 have hw : wl (K5 fu l) ([], 0) = some (aai (l.map keyOf), (l.length : Int)) := adb (f := K5 fu l) l (fun m a => Jd m (keyOf a) true) (fun s k => (s, (k : Int))) (fun _ _ => True) [] trivial (b := (aai (l.map keyOf), (l.length : Int))) (fun k hk s _ => ⟨by
  unfold K5
  dsimp only
  rw [uQ hk, qB l k hk]
  generalize l[k] = y
  obtain ⟨_, ⟨_, _, _, ⟨_, _, _, ⟨_, _⟩, ⟨_, _⟩, _, _, _⟩⟩, ⟨_, _⟩, ⟨_, _⟩, ⟨_, _⟩, _, _, _, ⟨_, _, _, ⟨_, _⟩, ⟨_, _⟩, _, _, _⟩, _, _, ⟨_, _⟩, _, _⟩ := y
  simp only [cond_true, Option.bind_some, tu (show k < 9223372036854775807 by omega), keyOf], trivial⟩) (fun s _ hs => by
  unfold K5
  dsimp only
  rw [tC, hs, aai, List.foldl_map]
  rfl)
 rw [hw]
 simp only [Option.bind_some, vO, aaj, List.length_map, aoX]
 rfl
theorem KA {fu : Nat} {l : List Int} {x : Option (List Int)} {k : Int} (hn : l.length ≤ 8796093022208) : tT fu ⟨l, x⟩ k = some (l.any fun a => k == a) := by
 have e : abn fu l k = Lj (fun a => some (k == a)) l := by
  funext q
  obtain ⟨o, i⟩ := q
  rfl
 unfold tT P58 P82
 dsimp only
 have h := acH (p := fun a => some (k == a)) (l := l) (fun a => k == a) (by omega) (fun _ _ => rfl)
 rw [e]
 have h2 := find_ok (p := fun a => some (k == a)) (l := l) (fun a => k == a) (by omega) (fun _ _ => rfl)
 rw [h2]
 rw [← KZ]
 cases l.findIdx? (fun a => k == a) with
 | none => rfl
 | some j => simp only [Option.bind_some, Option.isSome_some]; rw [decide_eq_true (by omega)]
def Me : Value → Bool | .mk k n s l f e c b => k == 0 && (n == 0 && (seq s ByteArray.empty && (e == 0 && (seq c ByteArray.empty && (b == false && (ln l.l == 0 && ln f.l == 0))))))
theorem alF (v : Value) : Me (cp v) = Me v := by
 obtain ⟨k, n, s, ⟨l, x⟩, ⟨f, y⟩, e, c, b⟩ := v
 simp only [cp, cpS, cpG, rQ, rR, Me, ln, List.length_map]
theorem aoF {n : Nat} {v : Value} : P60 (n + 3) v (Value.mk 0 0 ByteArray.empty (Sl.mk [] (some [])) (Sl.mk [] (some [])) 0 ByteArray.empty false) = some (Me v) := by
 obtain ⟨k, nn, s, ⟨l, x⟩, ⟨f, y⟩, e, c, b⟩ := v
 have h1 : P83 (n + 2) ⟨l, x⟩ ⟨[], some []⟩ (P60 (n + 2)) = some (ln l == 0) := by
  unfold P83
  cases l with
  | nil =>
   have hw : wl (abo (n + 2) (P60 (n + 2)) [] []) 0 = some (.inl 0) := yT rfl
   dsimp only
   rw [hw]
   rfl
  | cons a r =>
   have : (ln (a :: r) == ln ([] : List Value)) = false := by simp [ln]; omega
   have h2 : (ln (a :: r) == 0) = false := this
   simp only [this, h2, Bool.not_false, cond_true]
 have h2 : P84 (n + 2) ⟨f, y⟩ ⟨[], some []⟩ = some (ln f == 0) := by
  rw [P84.eq_2]
  unfold amJ amH
  dsimp only
  cases f with
  | nil =>
   have hw : wl (Vk (n + 1) (aiP (n + 1)) [] []) 0 = some (.inl 0) := yT rfl
   rw [hw]
   rfl
  | cons a r =>
   have : (ln (a :: r) == ln ([] : List Field)) = false := by simp [ln]; omega
   have h2 : (ln (a :: r) == 0) = false := this
   simp only [this, h2, Bool.not_false, cond_true, Option.bind_some]
 rw [P60.eq_2]
 unfold amI
 dsimp only
 simp only [h1, h2, Me, Option.bind_some]
 simp only [vO, Option.bind_some]
noncomputable def mQ : Inst → Bool
 | .mk d c s o k n f b e w h p r q =>
  decide (0 < d) && decide (1 ≤ c.Kind) && decide (c.Kind ≤ 9) && decide (0 ≤ n) && aaj (k.l.map keyOf) && aaj (p.l.map keyOf) &&
   ((ln s.l == 0) || [2, 3].any fun a => c.Kind == a) && ((n == 0) || [1, 9].any fun a => c.Kind == a) && ((!f && (!b && Me e)) || [7].any fun a => c.Kind == a) &&
   ((seq w ByteArray.empty && !h) || [8].any fun a => c.Kind == a) && ((ln p.l == 0) || (c.Kind == 8 && h)) && ((ln k.l == 0) || !([9].any fun a => c.Kind == a))
theorem af0 (x : Inst) : mQ (fF x) = mQ x := by
 obtain ⟨d, c, s, o, ⟨k, kx⟩, n, f, b, e, w, h, ⟨p, px⟩, r, q⟩ := x
 simp only [fF, Lp, mZ, mQ, CK, List.map_map, ln, List.length_map, alF]
 rw [show keyOf ∘ fF = keyOf from funext aah]
theorem af2 (x : Inst) {k s : List Inst} (hk : k.map keyOf = (iC x).map keyOf) (hs : s.map keyOf = (fB x).map keyOf) : mQ (wK x k s) = mQ x := by
 obtain ⟨d, c, s', o, ⟨k', kx⟩, n, f, b, e, w, h, ⟨p, px⟩, r, q⟩ := x
 simp only [iC, fB] at hk hs
 have h1 : k.length = k'.length := by simpa using congrArg List.length hk
 have h2 : s.length = p.length := by simpa using congrArg List.length hs
 simp only [wK, mQ, hk, hs, ln, h1, h2]
theorem alG {N n : Nat} {x : Inst} (hf : jH N x) (hn : 3 ≤ n) : P26 n x = some (mQ x) := by
 obtain ⟨n', rfl⟩ : ∃ n', n = n' + 3 := ⟨n - 3, by omega⟩
 cases N with
 | zero => exact absurd hf (by obtain ⟨_, ⟨_, _, _, ⟨_, _, _, ⟨_, _⟩, ⟨_, _⟩, _, _, _⟩⟩, ⟨_, _⟩, ⟨_, _⟩, ⟨_, _⟩, _, _, _, ⟨_, _, _, ⟨_, _⟩, ⟨_, _⟩, _, _, _⟩, _, _, ⟨_, _⟩, _, _⟩ := x; simp [jH])
 | succ N =>
 obtain ⟨d, c, ⟨s, sx⟩, ⟨o, ox⟩, ⟨k, kx⟩, nd, f, b, e, w, h, ⟨p, px⟩, r, q⟩ := x
 obtain ⟨h1, h2, h3, h6, h4, h5⟩ := hf
 have g1 := afh (fu := n' + 3) (x := kx) (dX (by omega) h4.1)
 have g2 := afh (fu := n' + 3) (x := px) (dX (by omega) h5.1)
 have g3 := aoF (n := n') (v := e)
 have i1 : ∀ j : Int, tT (n' + 3) ⟨[2, 3], some []⟩ j = _ := fun j => KA (by simp)
 have i2 : ∀ j : Int, tT (n' + 3) ⟨[1, 9], some []⟩ j = _ := fun j => KA (by simp)
 have i3 : ∀ j : Int, tT (n' + 3) ⟨[7], some []⟩ j = _ := fun j => KA (by simp)
 have i4 : ∀ j : Int, tT (n' + 3) ⟨[8], some []⟩ j = _ := fun j => KA (by simp)
 have i5 : ∀ j : Int, tT (n' + 3) ⟨[9], some []⟩ j = _ := fun j => KA (by simp)
 clear h1 h2 h3 h4 h5 h6
 obtain ⟨_, _, _, ⟨_, _, _, ⟨_, _⟩, ⟨_, _⟩, _, _, _⟩⟩ := c
 revert g3
 generalize hne : Me e = ne
 intro g3
 obtain ⟨_, _, _, ⟨_, _⟩, ⟨_, _⟩, _, _, _⟩ := e
 unfold P26 P36
 dsimp only
 simp only [g1, g2, g3, i1, i2, i3, i4, i5, Option.bind_some, mQ, hne]
 simp only [mG, Option.bind_some]
 congr 1
 grind
abbrev Seen := List (Int × Bool)
def Fy (m : Seen) : Prop := ∀ d v, Dx m d = some v → v = true
theorem alH {m : Seen} (h : Fy m) (d : Int) : Fy (Jd m d true) := by
 intro e v hv
 rw [OB] at hv
 split at hv
 ·cases hv; rfl
 ·exact h e v hv
def zQ (D : Nat) (x : Inst) : Prop := low D x ∧ ∀ q ∈ nodes x, mQ q = true
def Good (P : Prop) (ns : List Int) (b : Bool) (m m' : Seen) : Prop :=
 (b = true ↔ P ∧ ns.Nodup ∧ ∀ z ∈ ns, Dx m z = none) ∧ (b = true → ∀ z, Dx m' z = none ↔ Dx m z = none ∧ z ∉ ns)
theorem alI {m : Seen} : Good True [] true m m := by simp [Good]
theorem afi {P : Prop} {a r : List Int} {Q : Prop} {m m1 m2 : Seen} (h : Good P a false m m1) : Good (P ∧ Q) (a ++ r) false m m2 := by
 refine ⟨⟨fun h => (by cases h), fun g => ?_⟩, fun h => (by cases h)⟩
 obtain ⟨⟨g1, g2⟩, g3, g4⟩ := g
 exact absurd (h.1.2 ⟨g1, (List.nodup_append.1 g3).1, fun z hz => g4 z (List.mem_append_left _ hz)⟩) (by simp)
theorem EO {P Q : Prop} {a r : List Int} {b : Bool} {m m1 m2 : Seen} (h : Good P a true m m1) (k : Good Q r b m1 m2) : Good (P ∧ Q) (a ++ r) b m m2 := by
 obtain ⟨h1, h2⟩ := h
 obtain ⟨k1, k2⟩ := k
 obtain ⟨g1, g2, g3⟩ := h1.1 rfl
 have h2 := h2 rfl
 refine ⟨⟨fun hb => ?_, fun g => ?_⟩, fun hb z => ?_⟩
 ·obtain ⟨q1, q2, q3⟩ := k1.1 hb
  refine ⟨⟨g1, q1⟩, List.nodup_append.2 ⟨g2, q2, fun x hx y hy e => ?_⟩, fun z hz => ?_⟩
  ·subst e
   exact ((h2 x).1 (q3 x hy)).2 hx
  ·rcases List.mem_append.1 hz with hz | hz
   ·exact g3 z hz
   ·exact ((h2 z).1 (q3 z hz)).1
 ·obtain ⟨⟨_, q1⟩, q2, q3⟩ := g
  obtain ⟨_, q4, q5⟩ := List.nodup_append.1 q2
  exact k1.2 ⟨q1, q4, fun z hz => (h2 z).2 ⟨q3 z (List.mem_append_right _ hz), fun hza => q5 z hza z hz rfl⟩⟩
 ·rw [k2 hb z, h2 z, List.mem_append]
  constructor
  ·rintro ⟨⟨a1, a2⟩, a3⟩; exact ⟨a1, fun q => q.elim a2 a3⟩
  ·rintro ⟨a1, a2⟩; exact ⟨⟨a1, fun q => a2 (.inl q)⟩, fun q => a2 (.inr q)⟩
theorem EP {P Q : Prop} {a : List Int} {b : Bool} {m m1 : Seen} (h : Good P a b m m1) (e : P ↔ Q) : Good Q a b m m1 := ⟨by rw [← e]; exact h.1, h.2⟩
theorem avt {fu : Nat} {d : Int} {D : Nat} {l : List Inst} {p : Inst → Int → Seen → Option (Bool × Seen)} (hn : l.length ≤ 8796093022208)
  (hp : ∀ a ∈ l, ∀ m, Fy m → ∃ b m', p a d m = some (!b, m') ∧ Fy m' ∧ Good (zQ D a) (nums a) b m m') :
  ∀ (k i : Nat), k + i = l.length → ∀ (m : Seen) (g : Int), Fy m → ∃ q, wl (zG fu p d l) (m, g, (i : Int)) = some q ∧
   (match q with | .inl (m', _, _) => Fy m' ∧ Good (∀ a ∈ l.drop i, zQ D a) ((l.drop i).flatMap nums) true m m' | .inr (m', j, _) => 0 ≤ j ∧ Fy m' ∧ Good (∀ a ∈ l.drop i, zQ D a) ((l.drop i).flatMap nums) false m m') := by
 intro k
 induction k with
 | zero =>
  intro i hi m g hm
  have : i = l.length := by omega
  subst this
  refine ⟨.inl (m, g, (l.length : Int)), yT ?_, hm, by simpa [List.drop_length] using alI⟩
  unfold zG
  dsimp only
  rw [tC]
  rfl
 | succ k ih =>
  intro i hi m g hm
  have hk : i < l.length := by omega
  obtain ⟨b, m', h1, h2, h3⟩ := hp l[i] (List.getElem_mem hk) m hm
  have e : zG fu p d l (m, g, (i : Int)) = some (bif !b then .inr (.inr (m', (i : Int), (i : Int))) else .inl (m', g, ((i + 1 : Nat) : Int))) := by
   unfold zG
   dsimp only
   rw [uQ hk, qB l i hk]
   revert h1
   generalize l[i] = y
   intro h1
   obtain ⟨_, ⟨_, _, _, ⟨_, _, _, ⟨_, _⟩, ⟨_, _⟩, _, _, _⟩⟩, ⟨_, _⟩, ⟨_, _⟩, ⟨_, _⟩, _, _, _, ⟨_, _, _, ⟨_, _⟩, ⟨_, _⟩, _, _, _⟩, _, _, ⟨_, _⟩, _, _⟩ := y
   simp only [cond_true, Option.bind_some, h1, tu (show i < 9223372036854775807 by omega)]
   cases b <;> rfl
  rw [List.drop_eq_getElem_cons hk, List.flatMap_cons]
  have hall : (zQ D l[i] ∧ ∀ a ∈ l.drop (i + 1), zQ D a) ↔ ∀ a ∈ l[i] :: l.drop (i + 1), zQ D a := List.forall_mem_cons.symm
  cases b with
  | false =>
   refine ⟨.inr (m', (i : Int), (i : Int)), yT e, by omega, h2, EP (afi h3) hall⟩
  | true =>
   obtain ⟨q, h4, h5⟩ := ih (i + 1) (by omega) m' g h2
   rw [Gd e]
   refine ⟨q, h4, ?_⟩
   rcases q with ⟨m2, g2, j2⟩ | ⟨m2, g2, j2⟩
   ·exact ⟨h5.1, EP (EO h3 h5.2) hall⟩
   ·exact ⟨h5.1, h5.2.1, EP (EO h3 h5.2.2) hall⟩
theorem avu {n : Nat} {d : Int} {D : Nat} {l : List Inst} {x : Option (List Inst)} (hn : l.length ≤ 8796093022208)
  (hp : ∀ a ∈ l, ∀ m, Fy m → ∃ b m', Qe n a d m = some (!b, m') ∧ Fy m' ∧ Good (zQ D a) (nums a) b m m') (m : Seen) (hm : Fy m) :
  ∃ b m', JB (n + 2) ⟨l, x⟩ d m = some (!b, m') ∧ Fy m' ∧ Good (∀ a ∈ l, zQ D a) (l.flatMap nums) b m m' := by
 obtain ⟨q, h1, h2⟩ := avt (fu := n) hn hp l.length 0 (by omega) m 0 hm
 rw [JB.eq_2]
 unfold Vm
 dsimp only
 rw [TB.eq_2]
 unfold Vn
 dsimp only
 rw [show ((0 : Nat) : Int) = 0 from rfl] at h1
 rw [h1]
 rw [List.drop_zero] at h2
 rcases q with ⟨m2, g2, j2⟩ | ⟨m2, g2, j2⟩
 ·exact ⟨true, m2, rfl, h2.1, h2.2⟩
 ·exact ⟨false, m2, by simp only [Option.bind_some, Bool.not_false]; rw [decide_eq_true h2.1], h2.2.1, h2.2.2⟩
theorem Fu (D : Nat) (x : Inst) : zQ (D + 1) x ↔ mQ x = true ∧ (∀ a ∈ iC x, zQ D a) ∧ ∀ a ∈ fB x, zQ D a := by
 constructor
 ·rintro ⟨⟨h1, h2⟩, h3⟩
  exact ⟨h3 x (mP x), fun a ha => ⟨h1 a ha, fun q hq => h3 q (iD.2 (.inr (.inl ⟨a, ha, hq⟩)))⟩, fun a ha => ⟨h2 a ha, fun q hq => h3 q (iD.2 (.inr (.inr ⟨a, ha, hq⟩)))⟩⟩
 ·rintro ⟨h1, h2, h3⟩
  refine ⟨⟨fun a ha => (h2 a ha).1, fun a ha => (h3 a ha).1⟩, fun q hq => ?_⟩
  rcases iD.1 hq with rfl | ⟨a, ha, hq⟩ | ⟨a, ha, hq⟩
  ·exact h1
  ·exact (h2 a ha).2 q hq
  ·exact (h3 a ha).2 q hq
theorem avv : ∀ (N D n : Nat) (x : Inst), jH N x → D ≤ 256 → 4 * N + 4 ≤ n → ∀ m, Fy m → ∃ b m', JA n x (257 - (D : Int)) m = some (b, m') ∧ Fy m' ∧ Good (zQ D x) (nums x) b m m' := by
 intro N
 induction N with
 | zero => intro D n v h; exact absurd h (by obtain ⟨_, ⟨_, _, _, ⟨_, _, _, ⟨_, _⟩, ⟨_, _⟩, _, _, _⟩⟩, ⟨_, _⟩, ⟨_, _⟩, ⟨_, _⟩, _, _, _, ⟨_, _, _, ⟨_, _⟩, ⟨_, _⟩, _, _, _⟩, _, _, ⟨_, _⟩, _, _⟩ := v; simp [jH])
 | succ N ih =>
  intro D n x hf hD hn m hm
  have ha := alG hf (n := n - 1) (by omega)
  obtain ⟨n', rfl⟩ : ∃ n', n = n' + 4 := ⟨n - 4, by omega⟩
  have hid : iW x ∈ nums x := by rw [kE]; simp
  rw [JA.eq_2]
  cases D with
  | zero =>
   refine ⟨false, m, ?_, hm, ⟨fun h => (by cases h), fun h => (h.1.1).elim⟩, fun h => by cases h⟩
   obtain ⟨_, ⟨_, _, _, ⟨_, _, _, ⟨_, _⟩, ⟨_, _⟩, _, _, _⟩⟩, ⟨_, _⟩, ⟨_, _⟩, ⟨_, _⟩, _, _, _, ⟨_, _, _, ⟨_, _⟩, ⟨_, _⟩, _, _, _⟩, _, _, ⟨_, _⟩, _, _⟩ := x
   unfold AB
   rfl
  | succ D =>
   have hdp : (!(decide ((256 : Int) < 257 - ((D + 1 : Nat) : Int)))) = true := by rw [decide_eq_false (by omega)]; rfl
   cases hg : Dx m (iW x) with
   | some v =>
    have hv := hm _ _ hg
    subst hv
    refine ⟨false, m, ?_, hm, ⟨fun h => (by cases h), fun h => ?_⟩, fun h => by cases h⟩
    ·obtain ⟨_, ⟨_, _, _, ⟨_, _, _, ⟨_, _⟩, ⟨_, _⟩, _, _, _⟩⟩, ⟨_, _⟩, ⟨_, _⟩, ⟨_, _⟩, _, _, _, ⟨_, _, _, ⟨_, _⟩, ⟨_, _⟩, _, _, _⟩, _, _, ⟨_, _⟩, _, _⟩ := x
     unfold AB
     simp only [iW] at hg
     simp only [hdp, hg, cond_true, Bool.not_true, cond_false, Option.bind_some]
    ·have := h.2.2 _ hid; rw [hg] at this; cases this
   | none =>
    cases hal : mQ x with
    | false =>
     refine ⟨false, m, ?_, hm, ⟨fun h => (by cases h), fun h => ?_⟩, fun h => by cases h⟩
     ·rw [hal] at ha
      obtain ⟨_, ⟨_, _, _, ⟨_, _, _, ⟨_, _⟩, ⟨_, _⟩, _, _, _⟩⟩, ⟨_, _⟩, ⟨_, _⟩, ⟨_, _⟩, _, _, _, ⟨_, _, _, ⟨_, _⟩, ⟨_, _⟩, _, _, _⟩, _, _, ⟨_, _⟩, _, _⟩ := x
      unfold AB
      simp only [iW] at hg
      rw [show n' + 4 - 1 = n' + 3 from rfl] at ha
      simp only [hdp, hg, ha, cond_true, Bool.not_false, Option.bind_some]
     ·have := ((Fu D x).1 h.1).1; rw [hal] at this; cases this
    | true =>
     rw [hal] at ha
     have hrow : ∀ (l : List Inst) (y : Option (List Inst)), l.length * 416 ≤ reachBytes → (∀ a ∈ l, jH N a) → ∀ m, Fy m →
       ∃ b m', JB (n' + 3) ⟨l, y⟩ (257 - ((D + 1 : Nat) : Int)) m = some (!b, m') ∧ Fy m' ∧ Good (∀ a ∈ l, zQ D a) (l.flatMap nums) b m m' := by
      intro l y h1 h2 m hm
      refine avu (n := n' + 1) (dX (by omega) h1) (fun a ha m hm => ?_) m hm
      obtain ⟨b, m', g1, g2, g3⟩ := ih D n' a (h2 a ha) (by omega) (by omega) m hm
      refine ⟨b, m', ?_, g2, g3⟩
      rw [Qe.eq_2]
      unfold Vl
      obtain ⟨_, ⟨_, _, _, ⟨_, _, _, ⟨_, _⟩, ⟨_, _⟩, _, _, _⟩⟩, ⟨_, _⟩, ⟨_, _⟩, ⟨_, _⟩, _, _, _, ⟨_, _, _, ⟨_, _⟩, ⟨_, _⟩, _, _, _⟩, _, _, ⟨_, _⟩, _, _⟩ := a
      dsimp only
      have e : gD (257 - ((D + 1 : Nat) : Int) + 1) = 257 - (D : Int) := by rw [wE (by omega) (by omega)]; omega
      rw [e, g1]
      rfl
     have hs := Fu D x
     have hns := kE x
     obtain ⟨d, c, s, o, ⟨k, kx⟩, nd, f, b, e, w, h, ⟨p, px⟩, r, q⟩ := x
     obtain ⟨_, _, _, _, q4, q5⟩ := hf
     obtain ⟨b1, m1, g1, g2, g3⟩ := hrow k kx q4.1 q4.2 (Jd m d true) (alH hm d)
     simp only [iW] at hg
     simp only [iW, iC, fB] at hs hns
     have one : Good (mQ (Inst.mk d c s o ⟨k, kx⟩ nd f b e w h ⟨p, px⟩ r q) = true) [d] true m (Jd m d true) := by
      refine ⟨⟨fun _ => ⟨hal, by simp, by simpa using hg⟩, fun _ => rfl⟩, fun _ z => ?_⟩
      rw [OB]
      by_cases hz : z = d
      ·simp [hz]
      ·simp [hz]
     have hP : ∀ fu1 fu2 fu4, ∃ bb m', AB (n' + 3) fu1 fu2 (JB (n' + 3)) fu4 (Inst.mk d c s o ⟨k, kx⟩ nd f b e w h ⟨p, px⟩ r q) (257 - ((D + 1 : Nat) : Int)) m = some (bb, m') ∧ Fy m' ∧
       Good (zQ (D + 1) (Inst.mk d c s o ⟨k, kx⟩ nd f b e w h ⟨p, px⟩ r q)) (nums (Inst.mk d c s o ⟨k, kx⟩ nd f b e w h ⟨p, px⟩ r q)) bb m m' := by
      intro fu1 fu2 fu4
      have ha : P26 (n' + 3) (Inst.mk d c s o ⟨k, kx⟩ nd f b e w h ⟨p, px⟩ r q) = some true := ha
      rw [hns]
      cases b1 with
      | false =>
       refine ⟨false, m1, ?_, g2, EP (EO one (afi (r := p.flatMap nums) (Q := ∀ a ∈ p, zQ D a) (m2 := m1) g3)) hs.symm⟩
       obtain ⟨_, _, _, ⟨_, _, _, ⟨_, _⟩, ⟨_, _⟩, _, _, _⟩⟩ := c
       obtain ⟨_, _, _, ⟨_, _⟩, ⟨_, _⟩, _, _, _⟩ := e
       obtain ⟨_, _⟩ := s
       obtain ⟨_, _⟩ := o
       unfold AB
       simp only [hdp, hg, ha, g1, cond_true, cond_false, Bool.not_true, Bool.not_false, Option.bind_some]
      | true =>
       obtain ⟨b2, m2, g4, g5, g6⟩ := hrow p px q5.1 q5.2 m1 g2
       refine ⟨b2, m2, ?_, g5, EP (EO one (EO g3 g6)) hs.symm⟩
       obtain ⟨_, _, _, ⟨_, _, _, ⟨_, _⟩, ⟨_, _⟩, _, _, _⟩⟩ := c
       obtain ⟨_, _, _, ⟨_, _⟩, ⟨_, _⟩, _, _, _⟩ := e
       obtain ⟨_, _⟩ := s
       obtain ⟨_, _⟩ := o
       unfold AB
       simp only [hdp, hg, ha, g1, g4, cond_true, cond_false, Bool.not_true, Bool.not_false, Bool.not_not, Option.bind_some]
     exact hP _ _ _
def FT (x : Inst) : Prop := zQ 256 x ∧ (nums x).Nodup
theorem aak {N n : Nat} {x : Inst} (hf : jH N x) (hn : 4 * N + 4 ≤ n) : ∃ b, P9 n x = some b ∧ (b = true ↔ FT x) := by
 obtain ⟨b, m', h1, h2, h3⟩ := avv N 256 n x hf (Nat.le_refl _) hn [] (by intro d v h; cases h)
 refine ⟨b, ?_, ?_⟩
 ·rw [show (257 - ((256 : Nat) : Int)) = 1 from rfl] at h1
  obtain ⟨_, ⟨_, _, _, ⟨_, _, _, ⟨_, _⟩, ⟨_, _⟩, _, _, _⟩⟩, ⟨_, _⟩, ⟨_, _⟩, ⟨_, _⟩, _, _, _, ⟨_, _, _, ⟨_, _⟩, ⟨_, _⟩, _, _, _⟩, _, _, ⟨_, _⟩, _, _⟩ := x
  unfold P9
  dsimp only
  rw [h1]
  rfl
 ·rw [h3.1]
  exact ⟨fun h => ⟨h.1, h.2.1⟩, fun h => ⟨h.1, h.2, fun _ _ => rfl⟩⟩
theorem Ud {A B : Type} {g : A → List B} : ∀ {l : List A} {b : List B}, l.foldl (fun s a => s ++ g a) b = b ++ l.flatMap g
 | [], b => by simp
 | a :: r, b => by rw [List.foldl_cons, Ud, List.flatMap_cons, List.append_assoc]
def ER : Inst → Bool | .mk _ c _ _ _ _ _ _ _ _ h _ _ _ => c.Kind == 8 && h
theorem aal (fu : Nat) (x : Inst) : P36 fu x = some (ER x) := by
 obtain ⟨_, ⟨_, _, _, ⟨_, _, _, ⟨_, _⟩, ⟨_, _⟩, _, _, _⟩⟩, ⟨_, _⟩, ⟨_, _⟩, ⟨_, _⟩, _, _, _, ⟨_, _, _, ⟨_, _⟩, ⟨_, _⟩, _, _, _⟩, _, _, ⟨_, _⟩, _, _⟩ := x
 unfold P36
 simp only [vO, Option.bind_some, ER]
theorem zR {x : Inst} (h : mQ x = true) : 0 < iW x := by
 obtain ⟨d, c, s, o, ⟨k, kx⟩, n, f, b, e, w, h', ⟨p, px⟩, r, q⟩ := x
 simp only [mQ, Bool.and_eq_true, decide_eq_true_eq] at h
 exact h.1.1.1.1.1.1.1.1.1.1.1
theorem Mf {x : Inst} (h : mQ x = true) (hh : ER x = false) : fB x = [] := by
 obtain ⟨d, c, s, o, ⟨k, kx⟩, n, f, b, e, w, h', ⟨p, px⟩, r, q⟩ := x
 simp only [mQ, Bool.and_eq_true, decide_eq_true_eq] at h
 have h2 := h.1.2
 simp only [ER] at hh
 rw [hh, Bool.or_false] at h2
 have : p.length = 0 := by simpa [ln] using h2
 simpa [fB] using this
theorem aoG {N n : Nat} {x : Inst} {b : List Inst} (hf : jH N x) (hn : 3 * N + 2 ≤ n) (hb : b.length + 1 ≤ 300000000000) : Zq n x b = some (b ++ [fF x]) := by
 have g1 := ayK N n x hf hn
 revert g1
 generalize fF x = t
 intro g1
 have hr : ∀ z : Inst, room 416 (ln (b ++ [z])) = true := fun z => UY (by simp only [ln, List.length_append, List.length_cons, List.length_nil]; omega)
 have hi : ∀ z : Inst, idx (b ++ [z]) (ln b) = some z := fun z => by rw [aoX, UW]; simp
 have hs : ∀ z t : Inst, List.set (b ++ [z]) (Int.toNat (ln b)) t = b ++ [t] := fun z t => by simp [ln]
 obtain ⟨_, ⟨_, _, _, ⟨_, _, _, ⟨_, _⟩, ⟨_, _⟩, _, _, _⟩⟩, ⟨_, _⟩, ⟨_, _⟩, ⟨_, _⟩, _, _, _, ⟨_, _, _, ⟨_, _⟩, ⟨_, _⟩, _, _, _⟩, _, _, ⟨_, _⟩, _, _⟩ := x
 obtain ⟨_, ⟨_, _, _, ⟨_, _, _, ⟨_, _⟩, ⟨_, _⟩, _, _, _⟩⟩, ⟨_, _⟩, ⟨_, _⟩, ⟨_, _⟩, _, _, _, ⟨_, _, _, ⟨_, _⟩, ⟨_, _⟩, _, _, _⟩, _, _, ⟨_, _⟩, _, _⟩ := t
 unfold Zq
 simp only [g1, hr, hi, hs, cond_true, Option.bind_some]
theorem aam {n : Nat} {l : List Inst} {b : List Inst} (hb : b.length + (l.flatMap nodes).length ≤ 300000000000) (hl : l.length ≤ 8796093022208) (hid : ∀ a ∈ l, 0 < iW a)
  {p : Inst → Option X.Ex → List Inst → Option (Bool × Option X.Ex × List Inst)}
  (hp : ∀ a ∈ l, ∀ b : List Inst, b.length + (nodes a).length ≤ 300000000000 → p a none b = some (true, none, b ++ (nodes a).map fF)) :
  wl (zJ n p l) (none, b, 0) = some (.inl (none, b ++ (l.flatMap nodes).map fF, (l.length : Int))) := by
 refine adb (f := zJ n p l) l (fun s a => s ++ (nodes a).map fF) (fun s k => (none, s, (k : Int))) (fun k s => s.length + ((l.drop k).flatMap nodes).length ≤ 300000000000) b (by simpa using hb) (fun k hk s hs => ?_) (fun s _ hs => ?_)
 ·rw [List.drop_eq_getElem_cons hk, List.flatMap_cons, List.length_append] at hs
  have h1 := hp l[k] (List.getElem_mem hk) s (by omega)
  have h2 := hid l[k] (List.getElem_mem hk)
  refine ⟨?_, by simp only [List.length_append, List.length_map]; omega⟩
  unfold zJ
  dsimp only
  rw [uQ hk, qB l k hk]
  revert h1 h2
  generalize l[k] = y
  intro h1 h2
  have h3 : (iW y == 0) = false := by simp; omega
  obtain ⟨_, ⟨_, _, _, ⟨_, _, _, ⟨_, _⟩, ⟨_, _⟩, _, _, _⟩⟩, ⟨_, _⟩, ⟨_, _⟩, ⟨_, _⟩, _, _, _, ⟨_, _, _, ⟨_, _⟩, ⟨_, _⟩, _, _, _⟩, _, _, ⟨_, _⟩, _, _⟩ := y
  simp only [iW] at h3
  simp only [cond_true, cond_false, Option.bind_some, h1, h3, Bool.not_false, Bool.not_true, tu (show k < 9223372036854775807 by omega)]
 ·unfold zJ
  dsimp only
  rw [tC, hs, Ud, List.map_flatMap]
  rfl
theorem aoH : ∀ (N D n : Nat) (x : Inst) (b : List Inst), jH N x → zQ D x → 3 * N + 5 ≤ n → b.length + (nodes x).length ≤ 300000000000 → Ma n x b = some (b ++ (nodes x).map fF) := by
 intro N
 induction N with
 | zero => intro D n v b h; exact absurd h (by obtain ⟨_, ⟨_, _, _, ⟨_, _, _, ⟨_, _⟩, ⟨_, _⟩, _, _, _⟩⟩, ⟨_, _⟩, ⟨_, _⟩, ⟨_, _⟩, _, _, _, ⟨_, _, _, ⟨_, _⟩, ⟨_, _⟩, _, _, _⟩, _, _, ⟨_, _⟩, _, _⟩ := v; simp [jH])
 | succ N ih =>
  intro D n x b hf ho hn hb
  cases D with
  | zero => exact ho.1.elim
  | succ D =>
   obtain ⟨h1, h2, h3⟩ := (Fu D x).1 ho
   have hid := zR h1
   have hsp := Mf h1
   obtain ⟨n', rfl⟩ : ∃ n', n = n' + 3 := ⟨n - 3, by omega⟩
   rw [mF, List.length_cons, List.length_append] at hb
   have ga := aoG (b := b) hf (n := n' + 2) (by omega) (by omega)
   have gh := aal (n' + 1) x
   have hp : ∀ a, jH N a → zQ D a → ∀ b : List Inst, b.length + (nodes a).length ≤ 300000000000 → y9 (n' + 1) a none b = some (true, none, b ++ (nodes a).map fF) := by
    intro a h4 h5 b h6
    have := ih D n' a b h4 h5 (by omega) h6
    rw [y9.eq_2]
    unfold Ng
    obtain ⟨_, ⟨_, _, _, ⟨_, _, _, ⟨_, _⟩, ⟨_, _⟩, _, _, _⟩⟩, ⟨_, _⟩, ⟨_, _⟩, ⟨_, _⟩, _, _, _, ⟨_, _, _, ⟨_, _⟩, ⟨_, _⟩, _, _, _⟩, _, _, ⟨_, _⟩, _, _⟩ := a
    dsimp only
    rw [this]
    rfl
   rw [mF]
   obtain ⟨d, c, s, o, ⟨k, kx⟩, nd, f, b', e, w, h, ⟨p, px⟩, r, q⟩ := x
   obtain ⟨_, _, _, _, q4, q5⟩ := hf
   simp only [iC, fB, iW] at h2 h3 hid hsp hb ⊢
   have w1 := aam (n := n' + 1) (p := y9 (n' + 1)) (l := k) (b := b ++ [fF (Inst.mk d c s o ⟨k, kx⟩ nd f b' e w h ⟨p, px⟩ r q)]) (by simp only [List.length_append, List.length_cons, List.length_nil]; omega) (dX (by omega) q4.1) (fun a ha => zR ((h2 a ha).2 a (mP a)))
    fun a ha b hb => hp a (q4.2 a ha) (h2 a ha) b hb
   have w2 := aam (n := n' + 1) (p := y9 (n' + 1)) (l := p) (b := b ++ [fF (Inst.mk d c s o ⟨k, kx⟩ nd f b' e w h ⟨p, px⟩ r q)] ++ (k.flatMap nodes).map fF) (by simp only [List.length_append, List.length_cons, List.length_nil, List.length_map]; omega) (dX (by omega) q5.1) (fun a ha => zR ((h3 a ha).2 a (mP a)))
    fun a ha b hb => hp a (q5.2 a ha) (h3 a ha) b hb
   have hk : QG (n' + 2) (Inst.mk d c s o ⟨k, kx⟩ nd f b' e w h ⟨p, px⟩ r q) none (b ++ [fF (Inst.mk d c s o ⟨k, kx⟩ nd f b' e w h ⟨p, px⟩ r q)]) =
     some (none, b ++ [fF (Inst.mk d c s o ⟨k, kx⟩ nd f b' e w h ⟨p, px⟩ r q)] ++ (k.flatMap nodes ++ p.flatMap nodes).map fF) := by
    revert w1 w2 gh hsp
    generalize b ++ [fF (Inst.mk d c s o ⟨k, kx⟩ nd f b' e w h ⟨p, px⟩ r q)] = b2
    intro hsp gh w1 w2
    rw [QG.eq_2]
    cases hh : ER (Inst.mk d c s o ⟨k, kx⟩ nd f b' e w h ⟨p, px⟩ r q) with
    | false =>
     have hp0 := hsp hh
     subst hp0
     rw [hh] at gh
     have v1 : wl (xD (n' + 1) (y9 (n' + 1)) [⟨k, kx⟩]) (none, b2, 0) = some (.inl (none, b2 ++ (k.flatMap nodes).map fF, 1)) := by
      rw [Gd (a' := (none, b2 ++ (k.flatMap nodes).map fF, 1)), yT]
      ·rfl
      ·unfold xD
       show (bif decide _ then ((wl _ _).bind _) else _) = _
       rw [w1]
       rfl
     obtain ⟨_, _, _, ⟨_, _, _, ⟨_, _⟩, ⟨_, _⟩, _, _, _⟩⟩ := c
     obtain ⟨_, _, _, ⟨_, _⟩, ⟨_, _⟩, _, _, _⟩ := e
     obtain ⟨_, _⟩ := s
     obtain ⟨_, _⟩ := o
     unfold QF
     dsimp only
     simp only [Option.bind_some, gh, cond_false, v1]
     simp
    | true =>
     rw [hh] at gh
     have v1 : wl (xD (n' + 1) (y9 (n' + 1)) [⟨k, kx⟩, ⟨p, px⟩]) (none, b2, 0) = some (.inl (none, b2 ++ (k.flatMap nodes).map fF ++ (p.flatMap nodes).map fF, 2)) := by
      rw [Gd (a' := (none, b2 ++ (k.flatMap nodes).map fF, 1)), Gd (a' := (none, b2 ++ (k.flatMap nodes).map fF ++ (p.flatMap nodes).map fF, 2)), yT]
      ·rfl
      ·unfold xD
       show (bif decide _ then ((wl _ _).bind _) else _) = _
       rw [w2]
       rfl
      ·unfold xD
       show (bif decide _ then ((wl _ _).bind _) else _) = _
       rw [w1]
       rfl
     have hr : room 24 (ln [(⟨k, kx⟩ : Sl Inst), ⟨p, px⟩]) = true := UY (by simp only [ln, List.length_cons, List.length_nil]; omega)
     obtain ⟨_, _, _, ⟨_, _, _, ⟨_, _⟩, ⟨_, _⟩, _, _, _⟩⟩ := c
     obtain ⟨_, _, _, ⟨_, _⟩, ⟨_, _⟩, _, _, _⟩ := e
     obtain ⟨_, _⟩ := s
     obtain ⟨_, _⟩ := o
     unfold QF
     dsimp only
     simp only [Option.bind_some, gh, cond_true, hr, show (ln [(⟨p, px⟩ : Sl Inst)] == 0) = false from rfl, cond_false, List.cons_append, List.nil_append, v1]
     simp
   have hz : (d == 0) = false := by simp; omega
   have fin : ∀ fu1 fu2, QE (n' + 2) fu1 fu2 (QG (n' + 2)) (Inst.mk d c s o ⟨k, kx⟩ nd f b' e w h ⟨p, px⟩ r q) b = some (b ++ (Inst.mk d c s o ⟨k, kx⟩ nd f b' e w h ⟨p, px⟩ r q :: (k.flatMap nodes ++ p.flatMap nodes)).map fF) := by
    intro fu1 fu2
    rw [List.map_cons]
    revert hk ga
    generalize fF (Inst.mk d c s o ⟨k, kx⟩ nd f b' e w h ⟨p, px⟩ r q) = y
    intro ga hk
    clear w1 w2
    obtain ⟨_, _, _, ⟨_, _, _, ⟨_, _⟩, ⟨_, _⟩, _, _, _⟩⟩ := c
    obtain ⟨_, _, _, ⟨_, _⟩, ⟨_, _⟩, _, _, _⟩ := e
    obtain ⟨_, _⟩ := s
    obtain ⟨_, _⟩ := o
    unfold QE P32
    dsimp only
    simp only [hz, cond_false, ga, hk, Option.bind_some, List.append_assoc, List.cons_append, List.nil_append]
   rw [Ma.eq_2]
   exact fin _ _
theorem acP {N n : Nat} {x : Inst} (hf : jH N x) (ho : FT x) (hn : 3 * N + 5 ≤ n) (hb : (nodes x).length ≤ 300000000000) : P10 n x = some ⟨(nodes x).map fF, none⟩ := by
 have h := aoH N 256 n x [] hf ho.1 hn (by simpa using hb)
 rw [List.nil_append] at h
 obtain ⟨_, ⟨_, _, _, ⟨_, _, _, ⟨_, _⟩, ⟨_, _⟩, _, _, _⟩⟩, ⟨_, _⟩, ⟨_, _⟩, ⟨_, _⟩, _, _, _, ⟨_, _, _, ⟨_, _⟩, ⟨_, _⟩, _, _, _⟩, _, _, ⟨_, _⟩, _, _⟩ := x
 unfold P10
 dsimp only
 rw [h]
 rfl
end Go.Proofs.Ytedfkehkcaaplaa
