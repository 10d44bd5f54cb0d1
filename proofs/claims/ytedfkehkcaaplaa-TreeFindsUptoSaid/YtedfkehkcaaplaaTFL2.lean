/- T -/
import Derived.Test.YtedfkehkcaaplaaTFL1
namespace Go.Proofs.Ytedfkehkcaaplaa
open Go Go.X
set_option linter.unusedVariables false
set_option maxRecDepth 100000
def iH : Inst → Int | .mk d _ _ _ _ _ _ _ _ _ _ _ _ _ => d
def eB : Inst → List Inst | .mk _ _ _ _ k _ _ _ _ _ _ _ _ _ => k.l
def cK : Inst → List Inst | .mk _ _ _ _ _ _ _ _ _ _ _ s _ _ => s.l
def wK : Inst → List Inst → List Inst → Inst | .mk d c s o _ n f b e w h _ r q, k', p' => .mk d c s o ⟨k', none⟩ n f b e w h ⟨p', none⟩ r q
theorem O9 (x : Inst) (k s : List Inst) : iH (wK x k s) = iH x := by cases x; rfl
theorem EF (x : Inst) (k s : List Inst) : eB (wK x k s) = k := by cases x; rfl
theorem Af (x : Inst) (k s : List Inst) : cK (wK x k s) = s := by cases x; rfl
theorem xA {x y : Inst} (h : y ∈ eB x) : SizeOf.sizeOf y < SizeOf.sizeOf x := by
 obtain ⟨d, c, s, o, ⟨k, kx⟩, n, f, b, e, w, h', ⟨p, px⟩, r, q⟩ := x
 have := List.sizeOf_lt_of_mem (show y ∈ k from h)
 simp only [Inst.mk.sizeOf_spec, Sl.mk.sizeOf_spec]
 omega
theorem xB {x y : Inst} (h : y ∈ cK x) : SizeOf.sizeOf y < SizeOf.sizeOf x := by
 obtain ⟨d, c, s, o, ⟨k, kx⟩, n, f, b, e, w, h', ⟨p, px⟩, r, q⟩ := x
 have := List.sizeOf_lt_of_mem (show y ∈ p from h)
 simp only [Inst.mk.sizeOf_spec, Sl.mk.sizeOf_spec]
 omega
theorem AY {p : Inst → Prop} (h : ∀ x, (∀ y ∈ eB x, p y) → (∀ y ∈ cK x, p y) → p x) : ∀ x, p x := by
 have : ∀ (N : Nat) x, SizeOf.sizeOf x ≤ N → p x := by
  intro N
  induction N with
  | zero => intro x hx; obtain ⟨d, c, s, o, k, n, f, b, e, w, h', q, r, t⟩ := x; simp only [Inst.mk.sizeOf_spec] at hx; omega
  | succ N ih => intro x hx; exact h x (fun y hy => ih y (by have := xA hy; omega)) (fun y hy => ih y (by have := xB hy; omega))
 exact fun x => this _ x (Nat.le_refl _)
noncomputable def vo : Nat → Inst → List Inst
 | 0, _ => []
 | N + 1, x => x :: ((eB x).flatMap (vo N) ++ (cK x).flatMap (vo N))
noncomputable def nodes (x : Inst) : List Inst := vo (SizeOf.sizeOf x) x
theorem eO {A B : Type} {f g : A → List B} : ∀ {l : List A}, (∀ x ∈ l, f x = g x) → l.flatMap f = l.flatMap g
 | [], _ => rfl
 | a :: r, h => by rw [List.flatMap_cons, List.flatMap_cons, h a (by simp), eO fun x hx => h x (by simp [hx])]
theorem Ag : ∀ (N M : Nat) (x : Inst), SizeOf.sizeOf x ≤ N → SizeOf.sizeOf x ≤ M → vo N x = vo M x := by
 intro N
 induction N with
 | zero => intro M x hx; obtain ⟨d, c, s, o, k, n, f, b, e, w, h', q, r, t⟩ := x; simp only [Inst.mk.sizeOf_spec] at hx; omega
 | succ N ih =>
  intro M x hx hM
  cases M with
  | zero => obtain ⟨d, c, s, o, k, n, f, b, e, w, h', q, r, t⟩ := x; simp only [Inst.mk.sizeOf_spec] at hM; omega
  | succ M =>
   rw [vo, vo, eO fun y hy => ih M y (by have := xA hy; omega) (by have := xA hy; omega), eO (l := cK x) fun y hy => ih M y (by have := xB hy; omega) (by have := xB hy; omega)]
theorem kF (x : Inst) : nodes x = x :: ((eB x).flatMap nodes ++ (cK x).flatMap nodes) := by
 rw [nodes, Ag _ (SizeOf.sizeOf x + 1) x (Nat.le_refl _) (by omega), vo, eO (g := nodes) fun y hy => Ag _ _ y (by have := xA hy; omega) (Nat.le_refl _), eO (l := cK x) (g := nodes) fun y hy => Ag _ _ y (by have := xB hy; omega) (Nat.le_refl _)]
noncomputable def MC (y : Inst) : Nat → Inst → Inst
 | 0, x => x
 | N + 1, x => if iH x = iH y then y else wK x ((eB x).map (MC y N)) ((cK x).map (MC y N))
noncomputable def sub (y x : Inst) : Inst := MC y (SizeOf.sizeOf x) x
theorem JW (y : Inst) : ∀ (N M : Nat) (x : Inst), SizeOf.sizeOf x ≤ N → SizeOf.sizeOf x ≤ M → MC y N x = MC y M x := by
 intro N
 induction N with
 | zero => intro M x hx; obtain ⟨d, c, s, o, k, n, f, b, e, w, h', q, r, t⟩ := x; simp only [Inst.mk.sizeOf_spec] at hx; omega
 | succ N ih =>
  intro M x hx hM
  cases M with
  | zero => obtain ⟨d, c, s, o, k, n, f, b, e, w, h', q, r, t⟩ := x; simp only [Inst.mk.sizeOf_spec] at hM; omega
  | succ M =>
   rw [MC, MC, List.map_congr_left (l := eB x) fun y hy => ih M y (by have := xA hy; omega) (by have := xA hy; omega), List.map_congr_left (l := cK x) fun y hy => ih M y (by have := xB hy; omega) (by have := xB hy; omega)]
theorem sub_eq (y x : Inst) : sub y x = if iH x = iH y then y else wK x ((eB x).map (sub y)) ((cK x).map (sub y)) := by
 rw [sub, JW y _ (SizeOf.sizeOf x + 1) x (Nat.le_refl _) (by omega), MC, List.map_congr_left (l := eB x) (g := sub y) fun z hz => JW y _ _ z (by have := xA hz; omega) (Nat.le_refl _), List.map_congr_left (l := cK x) (g := sub y) fun z hz => JW y _ _ z (by have := xB hz; omega) (Nat.le_refl _)]
theorem Wu {y x : Inst} (h : iH x = iH y) : sub y x = y := by rw [sub_eq, if_pos h]
theorem EG {y x : Inst} (h : iH x ≠ iH y) : sub y x = wK x ((eB x).map (sub y)) ((cK x).map (sub y)) := by rw [sub_eq, if_neg h]
theorem eD {x n : Inst} : n ∈ nodes x ↔ n = x ∨ (∃ y ∈ eB x, n ∈ nodes y) ∨ ∃ y ∈ cK x, n ∈ nodes y := by
 rw [kF]; simp
theorem gV (x : Inst) : x ∈ nodes x := eD.2 (.inl rfl)
noncomputable def nums (x : Inst) : List Int := (nodes x).map iH
theorem iZ (x : Inst) : nums x = iH x :: ((eB x).flatMap nums ++ (cK x).flatMap nums) := by
 rw [nums, kF]
 simp only [List.map_cons, List.map_append, List.map_flatMap]
 rfl
theorem ME {x : Inst} {d : Int} : d ∈ nums x ↔ d = iH x ∨ (∃ y ∈ eB x, d ∈ nums y) ∨ ∃ y ∈ cK x, d ∈ nums y := by
 rw [iZ]; simp
theorem sQ {x n : Inst} (h : n ∈ nodes x) : iH n ∈ nums x := List.mem_map_of_mem h
theorem JX {A B : Type} {g : A → List B} : ∀ {l : List A} {k : Nat} {b : B}, (l.flatMap g)[k]? = some b → ∃ l1 a l2 j, l = l1 ++ a :: l2 ∧ (g a)[j]? = some b ∧ k = (l1.flatMap g).length + j
 | [], k, b, h => by simp at h
 | a :: r, k, b, h => by
  rw [List.flatMap_cons] at h
  by_cases hk : k < (g a).length
  ·rw [List.getElem?_append_left hk] at h
   exact ⟨[], a, r, k, rfl, h, by simp⟩
  ·rw [List.getElem?_append_right (by omega)] at h
   obtain ⟨l1, a', l2, j, rfl, h2, h3⟩ := JX h
   exact ⟨a :: l1, a', l2, j, rfl, h2, by simp only [List.flatMap_cons, List.length_append]; omega⟩
theorem Wv {y x : Inst} (h : iH y ∉ nums x) : nums (sub y x) = nums x := by
 revert h
 refine AY (p := fun x => iH y ∉ nums x → nums (sub y x) = nums x) (fun x hk hs h => ?_) x
 have h0 := fun q => h (ME.2 q)
 have e : iH x ≠ iH y := fun q => h0 (.inl q.symm)
 rw [EG e, iZ, iZ x, O9, EF, Af, List.flatMap_map, List.flatMap_map]
 rw [eO (l := eB x) (g := nums) fun z hz => hk z hz fun q => h0 (.inr (.inl ⟨z, hz, q⟩)), eO (l := cK x) (g := nums) fun z hz => hs z hz fun q => h0 (.inr (.inr ⟨z, hz, q⟩))]
theorem nX {y : Inst} {l : List Inst} (h : iH y ∉ l.flatMap nums) : (l.map (sub y)).flatMap nums = l.flatMap nums := by
 rw [List.flatMap_map]
 refine eO fun z hz => Wv fun q => h ?_
 rw [List.mem_flatMap]
 exact ⟨z, hz, q⟩
theorem Ww {y : Inst} : ∀ (x : Inst) (k : Nat) (f : Inst), (nums x).Nodup → (nodes x)[k]? = some f → iH y = iH f →
  ∃ A B, nums x = A ++ nums f ++ B ∧ A.length = k ∧ nums (sub y x) = A ++ nums y ++ B := by
 intro x
 refine AY (p := fun x => ∀ (k : Nat) (f : Inst), (nums x).Nodup → (nodes x)[k]? = some f → iH y = iH f →
  ∃ A B, nums x = A ++ nums f ++ B ∧ A.length = k ∧ nums (sub y x) = A ++ nums y ++ B) (fun x hk hs k f nd hf hy => ?_) x
 have hm := List.mem_of_getElem? hf
 cases k with
 | zero =>
  rw [kF] at hf
  cases hf
  exact ⟨[], [], by simp, rfl, by rw [Wu hy.symm]; simp⟩
 | succ k =>
  have hn : iH x ≠ iH y := by
   intro e
   have h1 : (nums x)[0]? = some (iH x) := by rw [iZ]; rfl
   have h2 : (nums x)[k + 1]? = some (iH f) := by rw [nums, List.getElem?_map, hf]; rfl
   rw [e, hy] at h1
   have h3 : 0 < (nums x).length := (List.getElem?_eq_some_iff.1 h1).1
   have := (List.getElem?_inj (i := 0) (j := k + 1) h3 nd).1 (h1.trans h2.symm)
   omega
  rw [kF, List.getElem?_cons_succ] at hf
  rw [iZ] at nd
  have nd' := (List.nodup_cons.1 nd).2
  rw [List.nodup_append] at nd'
  obtain ⟨nk, ns, nx⟩ := nd'
  have lens : ∀ l : List Inst, (l.flatMap nums).length = (l.flatMap nodes).length := fun l => by
   rw [show nums = fun x => (nodes x).map iH from rfl, ← List.map_flatMap, List.length_map]
  by_cases hlt : k < ((eB x).flatMap nodes).length
  ·rw [List.getElem?_append_left hlt] at hf
   obtain ⟨l1, a, l2, j, hl, hj, hkj⟩ := JX hf
   have ha : a ∈ eB x := by rw [hl]; simp
   rw [hl, List.flatMap_append, List.flatMap_cons] at nk
   obtain ⟨q1, q2, q3⟩ := List.nodup_append.1 nk
   obtain ⟨q4, q5, q6⟩ := List.nodup_append.1 q2
   have hd : iH y ∈ nums a := by rw [hy]; exact sQ (List.mem_of_getElem? hj)
   have o1 : iH y ∉ l1.flatMap nums := fun q => q3 _ q _ (List.mem_append_left _ hd) rfl
   have o2 : iH y ∉ l2.flatMap nums := fun q => q6 _ hd _ q rfl
   have o3 : iH y ∉ (cK x).flatMap nums := fun q => nx _ (by rw [hl, List.flatMap_append, List.flatMap_cons]; exact List.mem_append_right _ (List.mem_append_left _ hd)) _ q rfl
   obtain ⟨A, B, h1, h2, h3⟩ := hk a ha j f q4 hj hy
   refine ⟨iH x :: (l1.flatMap nums ++ A), B ++ (l2.flatMap nums ++ (cK x).flatMap nums), ?_, ?_, ?_⟩
   ·rw [iZ, hl, List.flatMap_append, List.flatMap_cons, h1]
    simp only [List.cons_append, List.append_assoc]
   ·simp only [List.length_cons, List.length_append, lens, h2]
    omega
   ·rw [EG hn, iZ, O9, EF, Af, nX o3, hl, List.map_append, List.map_cons, List.flatMap_append, List.flatMap_cons, nX o1, nX o2, h3]
    simp only [List.cons_append, List.append_assoc]
  ·rw [List.getElem?_append_right (by omega)] at hf
   obtain ⟨l1, a, l2, j, hl, hj, hkj⟩ := JX hf
   have ha : a ∈ cK x := by rw [hl]; simp
   rw [hl, List.flatMap_append, List.flatMap_cons] at ns
   obtain ⟨q1, q2, q3⟩ := List.nodup_append.1 ns
   obtain ⟨q4, q5, q6⟩ := List.nodup_append.1 q2
   have hd : iH y ∈ nums a := by rw [hy]; exact sQ (List.mem_of_getElem? hj)
   have o1 : iH y ∉ l1.flatMap nums := fun q => q3 _ q _ (List.mem_append_left _ hd) rfl
   have o2 : iH y ∉ l2.flatMap nums := fun q => q6 _ hd _ q rfl
   have o3 : iH y ∉ (eB x).flatMap nums := fun q => nx _ q _ (by rw [hl, List.flatMap_append, List.flatMap_cons]; exact List.mem_append_right _ (List.mem_append_left _ hd)) rfl
   obtain ⟨A, B, h1, h2, h3⟩ := hs a ha j f q4 hj hy
   refine ⟨iH x :: ((eB x).flatMap nums ++ (l1.flatMap nums ++ A)), B ++ l2.flatMap nums, ?_, ?_, ?_⟩
   ·rw [iZ, hl, List.flatMap_append, List.flatMap_cons, h1]
    simp only [List.cons_append, List.append_assoc]
   ·simp only [List.length_cons, List.length_append, lens, h2]
    omega
   ·rw [EG hn, iZ, O9, EF, Af, nX o3, hl, List.map_append, List.map_cons, List.flatMap_append, List.flatMap_cons, nX o1, nX o2, h3]
    simp only [List.cons_append, List.append_assoc]
def low : Nat → Inst → Prop
 | 0, _ => False
 | d + 1, x => (∀ y ∈ eB x, low d y) ∧ ∀ y ∈ cK x, low d y
mutual
noncomputable def wF : Expr → Expr
 | .mk k n s a ns v el ky c t => .mk k n s (JY a) (.mk ns.l none) (JY v) el (JY ky) (vY c) t
noncomputable def Fg : Act → Act
 | .mk k n e => .mk k n (wF e)
noncomputable def JY : Sl Expr → Sl Expr
 | .mk l x => .mk (Wx l) none
noncomputable def Wx : List Expr → List Expr
 | [] => []
 | v :: r => wF v :: Wx r
noncomputable def vY : Sl Act → Sl Act
 | .mk l x => .mk (Wy l) none
noncomputable def Wy : List Act → List Act
 | [] => []
 | v :: r => Fg v :: Wy r
end
theorem pz : ∀ l, Wx l = l.map wF
 | [] => by rw [Wx]; rfl
 | v :: r => by rw [Wx, pz r]; rfl
theorem mE : ∀ l, Wy l = l.map Fg
 | [] => by rw [Wy]; rfl
 | v :: r => by rw [Wy, mE r]; rfl
noncomputable def MU (c : Cell) : Cell := ⟨c.Kind, c.Name, cp c.fV, cp c.Next, QC c.RH, vY c.Do, vY c.Undo, MS c.Env, c.Runs, c.Ran, vY c.Old, MS c.Past⟩
noncomputable def tJ (c : Child) : Child := ⟨c.Key, c.Kind, c.Name, cp c.fV⟩
mutual
noncomputable def dI : Inst → Inst
 | .mk d c s o k n f b e w h p r q => .mk d (tJ c) (.mk (s.l.map MU) none) (.mk (o.l.map tJ) none) (Bo k) n f b (cp e) w h (Bo p) r q
noncomputable def Bo : Sl Inst → Sl Inst
 | .mk l x => .mk (Wz l) none
noncomputable def Wz : List Inst → List Inst
 | [] => []
 | v :: r => dI v :: Wz r
end
theorem jH : ∀ l, Wz l = l.map dI
 | [] => by rw [Wz]; rfl
 | v :: r => by rw [Wz, jH r]; rfl
theorem iB {A : Type} {g : A → A} {R : A → A → Prop} {l m : List A} (h : l.map g = m.map g) (hr : ∀ u ∈ l, ∀ a ∈ m, g u = g a → R u a) : vk R l m := by
 refine ⟨by simpa using congrArg List.length h, fun i u a hu ha => hr u (List.mem_of_getElem? hu) a (List.mem_of_getElem? ha) ?_⟩
 have := congrArg (fun l => l[i]?) h
 simpa [List.getElem?_map, hu, ha] using this
theorem Ah : ∀ (N : Nat) (a b : Value), Fit N a → cp a = cp b → Ad N a b := by
 intro N
 induction N with
 | zero => intro a b h; exact absurd h (by obtain ⟨_, _, _, ⟨_, _⟩, ⟨_, _⟩, _, _, _⟩ := a; simp [Fit])
 | succ N ih =>
  intro a b hf h
  obtain ⟨k, n, s, ⟨l, x⟩, ⟨f, y⟩, e, c, b'⟩ := a
  obtain ⟨k', n', s', ⟨l', x'⟩, ⟨f', y'⟩, e', c', b''⟩ := b
  simp only [cp, QC, MS, Value.mk.injEq, Sl.mk.injEq, mo, mq, and_true] at h
  obtain ⟨rfl, rfl, rfl, h1, h2, rfl, rfl, rfl⟩ := h
  obtain ⟨⟨p1, p2⟩, p3, p4⟩ := hf
  exact ⟨rfl, rfl, rfl, rfl, rfl, rfl, iB h1 fun u hu a _ e => ih u a (p2 u hu) e, iB h2 fun u hu a _ e => by
   have := p4 u hu
   obtain ⟨m, v⟩ := u
   obtain ⟨m', v'⟩ := a
   simp only [EC, Field.mk.injEq] at e
   exact ⟨e.1, ih v v' this e.2⟩⟩
theorem QI {N : Nat} {u a : Field} (hf : Bn (Fit N) u) (e : EC u = EC a) : RV (Ad N) u a := by
 obtain ⟨m, v⟩ := u
 obtain ⟨m', v'⟩ := a
 simp only [EC, Field.mk.injEq] at e
 exact ⟨e.1, Ah N v v' hf e.2⟩
theorem aae : ∀ (N : Nat) (a b : Expr), mD N a → wF a = wF b → ze N a b := by
 intro N
 induction N with
 | zero => intro a b h; exact absurd h (by obtain ⟨_, _, _, ⟨_, _⟩, ⟨_, _⟩, ⟨_, _⟩, _, ⟨_, _⟩, ⟨_, _⟩, _⟩ := a; simp [mD])
 | succ N ih =>
  intro a b hf h
  obtain ⟨k1, n1, s1, ⟨a1, Wj⟩, ⟨ns1, Xq⟩, ⟨v1, Wm⟩, el1, ⟨Z8, Wn⟩, ⟨c1, Wo⟩, t1⟩ := a
  obtain ⟨k2, n2, s2, ⟨a2, ax2⟩, ⟨ns2, nx2⟩, ⟨v2, vx2⟩, el2, ⟨ky2, kx2⟩, ⟨c2, cx2⟩, t2⟩ := b
  simp only [wF, JY, vY, Expr.mk.injEq, Sl.mk.injEq, pz, mE, and_true] at h
  obtain ⟨rfl, rfl, rfl, h1, rfl, h2, rfl, h3, h4, rfl⟩ := h
  obtain ⟨⟨p1, p2⟩, p3, ⟨p4, p5⟩, ⟨p6, p7⟩, p8, p9⟩ := hf
  exact ⟨rfl, rfl, rfl, iB h1 fun u hu a _ e => ih u a (p2 u hu) e, rfl, iB h2 fun u hu a _ e => ih u a (p5 u hu) e, rfl, iB h3 fun u hu a _ e => ih u a (p7 u hu) e, iB h4 fun u hu a _ e => by
   have := p9 u hu
   obtain ⟨k, m, v⟩ := u
   obtain ⟨k', m', v'⟩ := a
   simp only [Fg, Act.mk.injEq] at e
   exact ⟨e.1, e.2.1, ih v v' this e.2.2⟩, rfl⟩
theorem JZ {N : Nat} {u a : Act} (hf : Ae (mD N) u) (e : Fg u = Fg a) : O6 (ze N) u a := by
 obtain ⟨k, m, v⟩ := u
 obtain ⟨k', m', v'⟩ := a
 simp only [Fg, Act.mk.injEq] at e
 exact ⟨e.1, e.2.1, aae N v v' hf e.2.2⟩
theorem aaf {N : Nat} {a b : Cell} (hf : qg N a) (h : MU a = MU b) : ac6 N a b := by
 obtain ⟨k, m, v, u, ⟨ds, dx⟩, ⟨do_, dox⟩, ⟨un, unx⟩, ⟨en, enx⟩, r1, r2, ⟨od, odx⟩, ⟨pa, pax⟩⟩ := a
 obtain ⟨k', m', v', u', ⟨ds', dx'⟩, ⟨aac, afT⟩, ⟨un', afU⟩, ⟨en', afV⟩, r1', r2', ⟨od', afW⟩, ⟨pa', afX⟩⟩ := b
 simp only [MU, QC, MS, vY, Cell.mk.injEq, Sl.mk.injEq, mo, mq, mE, and_true] at h
 obtain ⟨rfl, rfl, h1, h2, h3, h4, h5, h6, rfl, rfl, h7, h8⟩ := h
 obtain ⟨f1, f2, f3, f4, f5, f6, f7, f8⟩ := hf
 exact ⟨rfl, rfl, Ah N _ _ f1 h1, Ah N _ _ f2 h2, iB h3 fun u hu a _ e => Ah N u a (f3.2 u hu) e, iB h4 fun u hu a _ e => JZ (f4.2 u hu) e, iB h5 fun u hu a _ e => JZ (f5.2 u hu) e,
  iB h6 fun u hu a _ e => QI (f6.2 u hu) e, rfl, rfl, iB h7 fun u hu a _ e => JZ (f7.2 u hu) e, iB h8 fun u hu a _ e => QI (f8.2 u hu) e⟩
theorem MF {N : Nat} {a b : Child} (hf : Fit N a.fV) (h : tJ a = tJ b) : Wp N a b := by
 obtain ⟨k, d, m, v⟩ := a
 obtain ⟨k', d', m', v'⟩ := b
 simp only [tJ, Child.mk.injEq] at h
 exact ⟨h.1, h.2.1, h.2.2.1, Ah N _ _ hf h.2.2.2⟩
def gJ : Nat → Inst → Prop
 | 0, _ => False
 | N + 1, .mk _ c s o k _ _ _ e _ _ p _ _ => Fit N c.fV ∧ (s.l.length * 400 ≤ reachBytes ∧ ∀ x ∈ s.l, qg N x) ∧ (o.l.length * 152 ≤ reachBytes ∧ ∀ x ∈ o.l, Fit N x.fV) ∧ Fit N e ∧
   (k.l.length * 416 ≤ reachBytes ∧ ∀ x ∈ k.l, gJ N x) ∧ (p.l.length * 416 ≤ reachBytes ∧ ∀ x ∈ p.l, gJ N x)
theorem pE : ∀ (N M : Nat) (v : Value), N ≤ M → Fit N v → Fit M v := by
 intro N
 induction N with
 | zero => intro M v _ h; exact absurd h (by obtain ⟨_, _, _, ⟨_, _⟩, ⟨_, _⟩, _, _, _⟩ := v; simp [Fit])
 | succ N ih =>
  intro M v hM h
  obtain ⟨M, rfl⟩ : ∃ m, M = m + 1 := ⟨M - 1, by omega⟩
  obtain ⟨k, n, s, ⟨l, x⟩, ⟨f, y⟩, e, c, b⟩ := v
  obtain ⟨⟨p1, p2⟩, p3, p4⟩ := h
  exact ⟨⟨p1, fun u hu => ih M u (by omega) (p2 u hu)⟩, p3, fun u hu => by
   have := p4 u hu
   obtain ⟨m, v⟩ := u
   exact ih M v (by omega) this⟩
theorem GQ {N M : Nat} {v : Field} (hM : N ≤ M) (h : Bn (Fit N) v) : Bn (Fit M) v := by
 obtain ⟨m, v⟩ := v
 exact pE N M v hM h
theorem Sc : ∀ (N M : Nat) (v : Expr), N ≤ M → mD N v → mD M v := by
 intro N
 induction N with
 | zero => intro M v _ h; exact absurd h (by obtain ⟨_, _, _, ⟨_, _⟩, ⟨_, _⟩, ⟨_, _⟩, _, ⟨_, _⟩, ⟨_, _⟩, _⟩ := v; simp [mD])
 | succ N ih =>
  intro M v hM h
  obtain ⟨M, rfl⟩ : ∃ m, M = m + 1 := ⟨M - 1, by omega⟩
  obtain ⟨k1, n1, s1, ⟨a1, Wj⟩, ⟨ns1, Xq⟩, ⟨v1, Wm⟩, el1, ⟨Z8, Wn⟩, ⟨c1, Wo⟩, t1⟩ := v
  obtain ⟨⟨p1, p2⟩, p3, ⟨p4, p5⟩, ⟨p6, p7⟩, p8, p9⟩ := h
  exact ⟨⟨p1, fun u hu => ih M u (by omega) (p2 u hu)⟩, p3, ⟨p4, fun u hu => ih M u (by omega) (p5 u hu)⟩, ⟨p6, fun u hu => ih M u (by omega) (p7 u hu)⟩, p8, fun u hu => by
   have := p9 u hu
   obtain ⟨k, m, v⟩ := u
   exact ih M v (by omega) this⟩
theorem Ai {N M : Nat} {v : Act} (hM : N ≤ M) (h : Ae (mD N) v) : Ae (mD M) v := by
 obtain ⟨k, m, v⟩ := v
 exact Sc N M v hM h
theorem Sd {N M : Nat} {c : Cell} (hM : N ≤ M) (h : qg N c) : qg M c := by
 obtain ⟨f1, f2, f3, f4, f5, f6, f7, f8⟩ := h
 exact ⟨pE N M _ hM f1, pE N M _ hM f2, ⟨f3.1, fun u hu => pE N M u hM (f3.2 u hu)⟩, ⟨f4.1, fun u hu => Ai hM (f4.2 u hu)⟩, ⟨f5.1, fun u hu => Ai hM (f5.2 u hu)⟩,
  ⟨f6.1, fun u hu => GQ hM (f6.2 u hu)⟩, ⟨f7.1, fun u hu => Ai hM (f7.2 u hu)⟩, ⟨f8.1, fun u hu => GQ hM (f8.2 u hu)⟩⟩
theorem GR : ∀ (N M : Nat) (v : Inst), N ≤ M → gJ N v → gJ M v := by
 intro N
 induction N with
 | zero => intro M v _ h; exact absurd h (by obtain ⟨_, ⟨_, _, _, ⟨_, _, _, ⟨_, _⟩, ⟨_, _⟩, _, _, _⟩⟩, ⟨_, _⟩, ⟨_, _⟩, ⟨_, _⟩, _, _, _, ⟨_, _, _, ⟨_, _⟩, ⟨_, _⟩, _, _, _⟩, _, _, ⟨_, _⟩, _, _⟩ := v; simp [gJ])
 | succ N ih =>
  intro M v hM h
  obtain ⟨M, rfl⟩ : ∃ m, M = m + 1 := ⟨M - 1, by omega⟩
  obtain ⟨d, c, s, o, k, n, f, b, e, w, h', p, r, q⟩ := v
  obtain ⟨h1, ⟨h2, h3⟩, ⟨h4, h5⟩, h6, ⟨h7, h8⟩, h9, h10⟩ := h
  exact ⟨pE N M _ (by omega) h1, ⟨h2, fun u hu => Sd (by omega) (h3 u hu)⟩, ⟨h4, fun u hu => pE N M _ (by omega) (h5 u hu)⟩, pE N M _ (by omega) h6, ⟨h7, fun u hu => ih M u (by omega) (h8 u hu)⟩, h9, fun u hu => ih M u (by omega) (h10 u hu)⟩
theorem xC : ∀ (N : Nat) (v : Value), Fit N v → Fit N (cp v) := by
 intro N
 induction N with
 | zero => intro v h; exact absurd h (by obtain ⟨_, _, _, ⟨_, _⟩, ⟨_, _⟩, _, _, _⟩ := v; simp [Fit])
 | succ N ih =>
  intro v h
  obtain ⟨k, n, s, ⟨l, x⟩, ⟨f, y⟩, e, c, b⟩ := v
  obtain ⟨⟨p1, p2⟩, p3, p4⟩ := h
  simp only [cp, QC, MS, mo, mq]
  refine ⟨⟨by simpa using p1, fun u hu => ?_⟩, by simpa using p3, fun u hu => ?_⟩
  ·obtain ⟨t, ht, rfl⟩ := List.mem_map.1 hu; exact ih t (p2 t ht)
  ·obtain ⟨t, ht, rfl⟩ := List.mem_map.1 hu
   have := p4 t ht
   obtain ⟨m, v⟩ := t
   exact ih v this
theorem QJ {N : Nat} {v : Field} (h : Bn (Fit N) v) : Bn (Fit N) (EC v) := by
 obtain ⟨m, v⟩ := v
 exact xC N v h
theorem aag : ∀ (N : Nat) (v : Expr), mD N v → mD N (wF v) := by
 intro N
 induction N with
 | zero => intro v h; exact absurd h (by obtain ⟨_, _, _, ⟨_, _⟩, ⟨_, _⟩, ⟨_, _⟩, _, ⟨_, _⟩, ⟨_, _⟩, _⟩ := v; simp [mD])
 | succ N ih =>
  intro v h
  obtain ⟨k1, n1, s1, ⟨a1, Wj⟩, ⟨ns1, Xq⟩, ⟨v1, Wm⟩, el1, ⟨Z8, Wn⟩, ⟨c1, Wo⟩, t1⟩ := v
  obtain ⟨⟨p1, p2⟩, p3, ⟨p4, p5⟩, ⟨p6, p7⟩, p8, p9⟩ := h
  simp only [wF, JY, vY, pz, mE]
  refine ⟨⟨by simpa using p1, fun u hu => ?_⟩, p3, ⟨by simpa using p4, fun u hu => ?_⟩, ⟨by simpa using p6, fun u hu => ?_⟩, by simpa using p8, fun u hu => ?_⟩
  ·obtain ⟨t, ht, rfl⟩ := List.mem_map.1 hu; exact ih t (p2 t ht)
  ·obtain ⟨t, ht, rfl⟩ := List.mem_map.1 hu; exact ih t (p5 t ht)
  ·obtain ⟨t, ht, rfl⟩ := List.mem_map.1 hu; exact ih t (p7 t ht)
  ·obtain ⟨t, ht, rfl⟩ := List.mem_map.1 hu
   have := p9 t ht
   obtain ⟨k, m, v⟩ := t
   exact ih v this
theorem Ka {N : Nat} {v : Act} (h : Ae (mD N) v) : Ae (mD N) (Fg v) := by
 obtain ⟨k, m, v⟩ := v
 exact aag N v h
theorem qD {A : Type} {g : A → A} {p : A → Prop} {l : List A} {z : Nat} (h : l.length * z ≤ reachBytes ∧ ∀ x ∈ l, p x) (hg : ∀ x ∈ l, p x → p (g x)) : (l.map g).length * z ≤ reachBytes ∧ ∀ x ∈ l.map g, p x := by
 refine ⟨by simpa using h.1, fun u hu => ?_⟩
 obtain ⟨t, ht, rfl⟩ := List.mem_map.1 hu
 exact hg t ht (h.2 t ht)
theorem aah {N : Nat} {c : Cell} (h : qg N c) : qg N (MU c) := by
 obtain ⟨k, m, v, u, ⟨ds, dx⟩, ⟨do_, dox⟩, ⟨un, unx⟩, ⟨en, enx⟩, r1, r2, ⟨od, odx⟩, ⟨pa, pax⟩⟩ := c
 obtain ⟨f1, f2, f3, f4, f5, f6, f7, f8⟩ := h
 simp only [MU, QC, MS, vY, mo, mq, mE]
 exact ⟨xC N _ f1, xC N _ f2, qD f3 fun x _ => xC N x, qD f4 fun x _ => Ka, qD f5 fun x _ => Ka, qD f6 fun x _ => QJ, qD f7 fun x _ => Ka, qD f8 fun x _ => QJ⟩
theorem zf : ∀ (N : Nat) (v : Inst), gJ N v → gJ N (dI v) := by
 intro N
 induction N with
 | zero => intro v h; exact absurd h (by obtain ⟨_, ⟨_, _, _, ⟨_, _, _, ⟨_, _⟩, ⟨_, _⟩, _, _, _⟩⟩, ⟨_, _⟩, ⟨_, _⟩, ⟨_, _⟩, _, _, _, ⟨_, _, _, ⟨_, _⟩, ⟨_, _⟩, _, _, _⟩, _, _, ⟨_, _⟩, _, _⟩ := v; simp [gJ])
 | succ N ih =>
  intro v h
  obtain ⟨d, c, s, o, ⟨k, kx⟩, n, f, b, e, w, h', ⟨p, px⟩, r, q⟩ := v
  obtain ⟨h1, h2, h3, h6, h4, h5⟩ := h
  simp only [dI, Bo, jH]
  exact ⟨xC N _ h1, qD h2 fun x _ => aah, qD h3 fun x _ h => xC N _ h, xC N _ h6, qD h4 fun x _ => ih x, qD h5 fun x _ => ih x⟩
theorem MG (v : Value) : cp (cp v) = cp v := by
 have : ∀ (N : Nat) (v : Value), SizeOf.sizeOf v ≤ N → cp (cp v) = cp v := by
  intro N
  induction N with
  | zero => intro v h; obtain ⟨_, _, _, ⟨_, _⟩, ⟨_, _⟩, _, _, _⟩ := v; simp only [Value.mk.sizeOf_spec] at h; omega
  | succ N ih =>
   intro v h
   obtain ⟨k, n, s, ⟨l, x⟩, ⟨f, y⟩, e, c, b⟩ := v
   simp only [cp, QC, MS, mo, mq, List.map_map]
   rw [List.map_congr_left (l := l) (f := cp ∘ cp) (g := cp) fun u hu => ih u (by have := OX (k := k) (n := n) (s := s) (key := c) (lx := x) (f := ⟨f, y⟩) (e := e) (hk := b) hu; omega),
    List.map_congr_left (l := f) (f := EC ∘ EC) (g := EC) fun u hu => by
     have := OY (k := k) (n := n) (s := s) (key := c) (l := ⟨l, x⟩) (fx := y) (e := e) (hk := b) hu
     obtain ⟨m, v⟩ := u
     have := OZ (m := m) (v := v)
     simp only [Function.comp, EC, ih v (by omega)]]
 exact this _ v (Nat.le_refl _)
theorem ac8 (v : Field) : EC (EC v) = EC v := by
 obtain ⟨m, v⟩ := v
 simp only [EC, MG]
theorem ac9 (v : Expr) : wF (wF v) = wF v := by
 have : ∀ (N : Nat) (v : Expr), SizeOf.sizeOf v ≤ N → wF (wF v) = wF v := by
  intro N
  induction N with
  | zero => intro v h; obtain ⟨_, _, _, ⟨_, _⟩, ⟨_, _⟩, ⟨_, _⟩, _, ⟨_, _⟩, ⟨_, _⟩, _⟩ := v; simp only [Expr.mk.sizeOf_spec] at h; omega
  | succ N ih =>
   intro v h
   obtain ⟨k1, n1, s1, ⟨a1, Wj⟩, ⟨ns1, Xq⟩, ⟨v1, Wm⟩, el1, ⟨Z8, Wn⟩, ⟨c1, Wo⟩, t1⟩ := v
   simp only [Expr.mk.sizeOf_spec, Sl.mk.sizeOf_spec] at h
   simp only [wF, JY, vY, pz, mE, List.map_map]
   rw [List.map_congr_left (l := a1) (f := wF ∘ wF) (g := wF) fun u hu => ih u (by have := List.sizeOf_lt_of_mem hu; omega), List.map_congr_left (l := v1) (f := wF ∘ wF) (g := wF) fun u hu => ih u (by have := List.sizeOf_lt_of_mem hu; omega),
    List.map_congr_left (l := Z8) (f := wF ∘ wF) (g := wF) fun u hu => ih u (by have := List.sizeOf_lt_of_mem hu; omega), List.map_congr_left (l := c1) (f := Fg ∘ Fg) (g := Fg) fun u hu => by
     have := List.sizeOf_lt_of_mem hu
     obtain ⟨k, m, v⟩ := u
     simp only [Act.mk.sizeOf_spec] at this
     simp only [Function.comp, Fg, ih v (by omega)]]
 exact this _ v (Nat.le_refl _)
theorem ada (v : Act) : Fg (Fg v) = Fg v := by
 obtain ⟨k, m, v⟩ := v
 simp only [Fg, ac9]
theorem adb (c : Cell) : MU (MU c) = MU c := by
 obtain ⟨k, m, v, u, ⟨ds, dx⟩, ⟨do_, dox⟩, ⟨un, unx⟩, ⟨en, enx⟩, r1, r2, ⟨od, odx⟩, ⟨pa, pax⟩⟩ := c
 simp only [MU, QC, MS, vY, mo, mq, mE, List.map_map, MG]
 rw [show cp ∘ cp = cp from funext MG, show EC ∘ EC = EC from funext ac8, show Fg ∘ Fg = Fg from funext ada]
theorem QK (c : Child) : tJ (tJ c) = tJ c := by
 obtain ⟨k, d, m, v⟩ := c
 simp only [tJ, MG]
theorem Kc (x : Inst) : iH (dI x) = iH x := by cases x; simp only [dI, iH]
theorem pF (x : Inst) : eB (dI x) = (eB x).map dI := by
 obtain ⟨d, c, s, o, ⟨k, kx⟩, n, f, b, e, w, h', ⟨p, px⟩, r, q⟩ := x
 simp only [dI, Bo, eB, jH]
theorem mW (x : Inst) : cK (dI x) = (cK x).map dI := by
 obtain ⟨d, c, s, o, ⟨k, kx⟩, n, f, b, e, w, h', ⟨p, px⟩, r, q⟩ := x
 simp only [dI, Bo, cK, jH]
theorem WA (x : Inst) (k s : List Inst) : dI (wK x k s) = wK (dI x) (k.map dI) (s.map dI) := by
 obtain ⟨d, c, s, o, ⟨k, kx⟩, n, f, b, e, w, h', ⟨p, px⟩, r, q⟩ := x
 simp only [wK, dI, Bo, jH]
theorem QL (x : Inst) : wK (dI x) (eB (dI x)) (cK (dI x)) = dI x := by
 obtain ⟨d, c, s, o, ⟨k, kx⟩, n, f, b, e, w, h', ⟨p, px⟩, r, q⟩ := x
 simp only [wK, dI, Bo, jH, eB, cK]
theorem WB : ∀ x, dI (dI x) = dI x := by
 refine AY fun x hk hs => ?_
 obtain ⟨d, c, s, o, ⟨k, kx⟩, n, f, b, e, w, h', ⟨p, px⟩, r, q⟩ := x
 simp only [dI, Bo, jH, List.map_map, MG, QK]
 rw [show MU ∘ MU = MU from funext adb, show tJ ∘ tJ = tJ from funext QK, List.map_congr_left (l := k) (f := dI ∘ dI) (g := dI) hk, List.map_congr_left (l := p) (f := dI ∘ dI) (g := dI) hs]
theorem MH : ∀ x, nodes (dI x) = (nodes x).map dI := by
 refine AY fun x hk hs => ?_
 rw [kF, kF x, pF, mW, List.flatMap_map, List.flatMap_map, eO (l := eB x) hk, eO (l := cK x) hs]
 simp only [List.map_cons, List.map_append, List.map_flatMap]
theorem aai (x : Inst) : nums (dI x) = nums x := by
 rw [nums, MH, List.map_map, nums]
 exact List.map_congr_left fun y _ => Kc y
theorem ade : ∀ (d : Nat) (x : Inst), low d (dI x) ↔ low d x := by
 intro d
 induction d with
 | zero => intro x; exact Iff.rfl
 | succ d ih =>
  intro x
  simp only [low, pF, mW, List.forall_mem_map, ih]
theorem aaj {f : Inst} : ∀ x, iH f ∉ nums x → dI (sub f x) = dI x := by
 refine AY fun x hk hs h => ?_
 have h0 := fun q => h (ME.2 q)
 rw [EG (fun q => h0 (.inl q.symm)), WA, List.map_map, List.map_map, List.map_congr_left (l := eB x) (f := dI ∘ sub f) (g := dI) fun y hy => hk y hy fun q => h0 (.inr (.inl ⟨y, hy, q⟩)),
  List.map_congr_left (l := cK x) (f := dI ∘ sub f) (g := dI) fun y hy => hs y hy fun q => h0 (.inr (.inr ⟨y, hy, q⟩)), ← pF, ← mW, QL]
theorem sub_self {f : Inst} : ∀ x, (nums x).Nodup → f ∈ nodes x → dI (sub f x) = dI x := by
 refine AY fun x hk hs nd hf => ?_
 have hd := sQ hf
 by_cases e : iH x = iH f
 ·rw [Wu e]
  rcases eD.1 hf with rfl | ⟨y, hy, h⟩ | ⟨y, hy, h⟩
  ·rfl
  ·rw [iZ] at nd
   exact absurd (List.mem_append_left _ (List.mem_flatMap.2 ⟨y, hy, e ▸ sQ h⟩)) (List.nodup_cons.1 nd).1
  ·rw [iZ] at nd
   exact absurd (List.mem_append_right _ (List.mem_flatMap.2 ⟨y, hy, e ▸ sQ h⟩)) (List.nodup_cons.1 nd).1
 ·have hx : ∀ y, iH f ∉ nums y → dI (sub f y) = dI y := aaj
  rw [iZ] at nd
  obtain ⟨nk, ns, nx⟩ := List.nodup_append.1 (List.nodup_cons.1 nd).2
  have one : ∀ (l : List Inst), (l.flatMap nums).Nodup → (∀ y ∈ l, (nums y).Nodup → f ∈ nodes y → dI (sub f y) = dI y) → (iH f ∉ l.flatMap nums ∨ ∃ y ∈ l, f ∈ nodes y) → (l.map (sub f)).map dI = l.map dI := by
   intro l nd ih h
   rcases h with h | ⟨y, hy, h⟩
   ·rw [List.map_map]
    exact List.map_congr_left fun y hy => hx y fun q => h (List.mem_flatMap.2 ⟨y, hy, q⟩)
   ·obtain ⟨l1, l2, rfl⟩ := List.append_of_mem hy
    rw [List.flatMap_append, List.flatMap_cons] at nd
    obtain ⟨q1, q2, q3⟩ := List.nodup_append.1 nd
    obtain ⟨q4, q5, q6⟩ := List.nodup_append.1 q2
    have hd := sQ h
    simp only [List.map_append, List.map_cons, List.map_map]
    rw [ih y (by simp) q4 h, List.map_congr_left (l := l1) (f := dI ∘ sub f) (g := dI) fun z hz => hx z fun q => q3 _ (List.mem_flatMap.2 ⟨z, hz, q⟩) _ (List.mem_append_left _ hd) rfl,
     List.map_congr_left (l := l2) (f := dI ∘ sub f) (g := dI) fun z hz => hx z fun q => q6 _ hd _ (List.mem_flatMap.2 ⟨z, hz, q⟩) rfl]
  have k1 : ((eB x).map (sub f)).map dI = (eB x).map dI := one _ nk hk (by
   rcases eD.1 hf with rfl | h | ⟨y, hy, h⟩
   ·exact absurd rfl e
   ·exact .inr h
   ·exact .inl fun q => nx _ q _ (List.mem_flatMap.2 ⟨y, hy, sQ h⟩) rfl)
  have k2 : ((cK x).map (sub f)).map dI = (cK x).map dI := one _ ns hs (by
   rcases eD.1 hf with rfl | ⟨y, hy, h⟩ | h
   ·exact absurd rfl e
   ·exact .inl fun q => nx _ (List.mem_flatMap.2 ⟨y, hy, sQ h⟩) _ q rfl
   ·exact .inr h)
  rw [EG e, WA, k1, k2, ← pF, ← mW, QL]
theorem MI {A : Type} {g : A → A} {h : A → Option A} {l : List A} (hn : l.length ≤ 8796093022208) (hp : ∀ v ∈ l, h v = some (g v)) : wl (mh h l) (l, 0) = some (l.map g, (l.length : Int)) := by
 obtain ⟨o, w1, w2, w3⟩ := map_ok (h := h) (r := l) (fun t a => t = g a) hn (fun v hv => ⟨_, hp v hv, rfl⟩)
 rw [w1, O1 w2 w3]
theorem aak (fu : Nat) (p : Expr → Option Expr) (r : List Expr) : BN fu p r = mh p r := by
 funext q
 obtain ⟨o, i⟩ := q
 unfold BN mh
 dsimp only
 cases decide (i < ln r)
 ·rfl
 ·cases idx o i with
  | none => rfl
  | some x =>
   obtain ⟨_, _, _, ⟨_, _⟩, ⟨_, _⟩, ⟨_, _⟩, _, ⟨_, _⟩, ⟨_, _⟩, _⟩ := x
   simp only [cond_true, Option.bind_some]
   cases p _ with
   | none => rfl
   | some t => obtain ⟨_, _, _, ⟨_, _⟩, ⟨_, _⟩, ⟨_, _⟩, _, ⟨_, _⟩, ⟨_, _⟩, _⟩ := t; rfl
theorem aal (fu : Nat) (p : Act → Option Act) (r : List Act) : BM fu p r = mh p r := by
 funext q
 obtain ⟨o, i⟩ := q
 unfold BM mh
 dsimp only
 cases decide (i < ln r)
 ·rfl
 ·cases idx o i with
  | none => rfl
  | some x =>
   obtain ⟨_, _, ⟨_, _, _, ⟨_, _⟩, ⟨_, _⟩, ⟨_, _⟩, _, ⟨_, _⟩, ⟨_, _⟩, _⟩⟩ := x
   simp only [cond_true, Option.bind_some]
   cases p _ with
   | none => rfl
   | some t => obtain ⟨_, _, ⟨_, _, _, ⟨_, _⟩, ⟨_, _⟩, ⟨_, _⟩, _, ⟨_, _⟩, ⟨_, _⟩, _⟩⟩ := t; rfl
theorem aam (fu : Nat) (p : Cell → Option Cell) (r : List Cell) : Jo fu p r = mh p r := by
 funext q
 obtain ⟨o, i⟩ := q
 unfold Jo mh
 dsimp only
 cases decide (i < ln r)
 ·rfl
 ·cases idx o i with
  | none => rfl
  | some x =>
   obtain ⟨_, _, ⟨_, _, _, ⟨_, _⟩, ⟨_, _⟩, _, _, _⟩, ⟨_, _, _, ⟨_, _⟩, ⟨_, _⟩, _, _, _⟩, ⟨_, _⟩, ⟨_, _⟩, ⟨_, _⟩, ⟨_, _⟩, _, _, ⟨_, _⟩, ⟨_, _⟩⟩ := x
   simp only [cond_true, Option.bind_some]
   cases p _ with
   | none => rfl
   | some t => obtain ⟨_, _, ⟨_, _, _, ⟨_, _⟩, ⟨_, _⟩, _, _, _⟩, ⟨_, _, _, ⟨_, _⟩, ⟨_, _⟩, _, _, _⟩, ⟨_, _⟩, ⟨_, _⟩, ⟨_, _⟩, ⟨_, _⟩, _, _, ⟨_, _⟩, ⟨_, _⟩⟩ := t; rfl
theorem WC (fu : Nat) (p : Child → Option Child) (r : List Child) : Jp fu p r = mh p r := by
 funext q
 obtain ⟨o, i⟩ := q
 unfold Jp mh
 dsimp only
 cases decide (i < ln r)
 ·rfl
 ·cases idx o i with
  | none => rfl
  | some x =>
   obtain ⟨_, _, _, ⟨_, _, _, ⟨_, _⟩, ⟨_, _⟩, _, _, _⟩⟩ := x
   simp only [cond_true, Option.bind_some]
   cases p _ with
   | none => rfl
   | some t => obtain ⟨_, _, _, ⟨_, _, _, ⟨_, _⟩, ⟨_, _⟩, _, _, _⟩⟩ := t; rfl
theorem aan (fu : Nat) (p : Inst → Option Inst) (r : List Inst) : Jq fu p r = mh p r := by
 funext q
 obtain ⟨o, i⟩ := q
 unfold Jq mh
 dsimp only
 cases decide (i < ln r)
 ·rfl
 ·cases idx o i with
  | none => rfl
  | some x =>
   obtain ⟨_, ⟨_, _, _, ⟨_, _, _, ⟨_, _⟩, ⟨_, _⟩, _, _, _⟩⟩, ⟨_, _⟩, ⟨_, _⟩, ⟨_, _⟩, _, _, _, ⟨_, _, _, ⟨_, _⟩, ⟨_, _⟩, _, _, _⟩, _, _, ⟨_, _⟩, _, _⟩ := x
   simp only [cond_true, Option.bind_some]
   cases p _ with
   | none => rfl
   | some t => obtain ⟨_, ⟨_, _, _, ⟨_, _, _, ⟨_, _⟩, ⟨_, _⟩, _, _, _⟩⟩, ⟨_, _⟩, ⟨_, _⟩, ⟨_, _⟩, _, _, _, ⟨_, _, _, ⟨_, _⟩, ⟨_, _⟩, _, _, _⟩, _, _, ⟨_, _⟩, _, _⟩ := t; rfl
theorem adf (fu : Nat) (l : List ByteArray) (x : Option (List ByteArray)) : Zc fu ⟨l, x⟩ = qC 16 l := rfl
theorem adg (fu : Nat) (l : List Expr) (x : Option (List Expr)) : Za fu ⟨l, x⟩ = qC 176 l := rfl
theorem adh (fu : Nat) (l : List Act) (x : Option (List Act)) : Y8 fu ⟨l, x⟩ = qC 200 l := rfl
theorem adi (fu : Nat) (l : List Cell) (x : Option (List Cell)) : P94 fu ⟨l, x⟩ = qC 400 l := rfl
theorem aao (fu : Nat) (l : List Child) (x : Option (List Child)) : P97 fu ⟨l, x⟩ = qC 152 l := rfl
theorem adj (fu : Nat) (l : List Inst) (x : Option (List Inst)) : P34 fu ⟨l, x⟩ = qC 416 l := rfl
theorem WE {n : Nat} {l : List Expr} {x : Option (List Expr)} (h1 : l.length * 176 ≤ reachBytes) (h : ∀ v ∈ l, El n v = some (wF v)) : Ox (n + 1) ⟨l, x⟩ = some ⟨l.map wF, none⟩ := by
 rw [Ox.eq_2]
 unfold Qj Zb
 dsimp only
 rw [adg, nJ (vX := 176) (k := 176) rfl h1]
 dsimp only [Option.bind_some]
 rw [aak, MI (bH (by omega) h1) h]
 rfl
theorem ahw {n : Nat} {q : Act} (h : Ae (fun e => El n e = some (wF e)) q) : Ow (n + 1) q = some (Fg q) := by
 obtain ⟨k, m, e⟩ := q
 have h : El n e = some (wF e) := h
 rw [Fg]
 revert h
 generalize wF e = t
 intro h
 obtain ⟨_, _, _, ⟨_, _⟩, ⟨_, _⟩, ⟨_, _⟩, _, ⟨_, _⟩, ⟨_, _⟩, _⟩ := e
 obtain ⟨_, _, _, ⟨_, _⟩, ⟨_, _⟩, ⟨_, _⟩, _, ⟨_, _⟩, ⟨_, _⟩, _⟩ := t
 rw [Ow.eq_2]
 unfold Qh
 dsimp only
 rw [h]
 rfl
theorem abf {n : Nat} {l : List Act} {x : Option (List Act)} (h1 : l.length * 200 ≤ reachBytes) (h : ∀ q ∈ l, Ae (fun e => El n e = some (wF e)) q) : Bj (n + 2) ⟨l, x⟩ = some ⟨l.map Fg, none⟩ := by
 rw [Bj.eq_2]
 unfold Qg Y9
 dsimp only
 rw [adh, nJ (vX := 200) (k := 200) rfl h1]
 dsimp only [Option.bind_some]
 rw [aal, MI (bH (by omega) h1) fun q hq => ahw (h q hq)]
 rfl
theorem ahx : ∀ (N n : Nat) (e : Expr), mD N e → 3 * N ≤ n → El n e = some (wF e) := by
 intro N
 induction N with
 | zero => intro n v h; exact absurd h (by obtain ⟨_, _, _, ⟨_, _⟩, ⟨_, _⟩, ⟨_, _⟩, _, ⟨_, _⟩, ⟨_, _⟩, _⟩ := v; simp [mD])
 | succ N ih =>
  intro n e h hn
  obtain ⟨n', rfl⟩ : ∃ n', n = n' + 3 := ⟨n - 3, by omega⟩
  obtain ⟨k1, n1, s1, ⟨a1, Wj⟩, ⟨ns1, Xq⟩, ⟨v1, Wm⟩, el1, ⟨Z8, Wn⟩, ⟨c1, Wo⟩, t1⟩ := e
  obtain ⟨⟨p1, p2⟩, p3, ⟨p4, p5⟩, ⟨p6, p7⟩, p8, p9⟩ := h
  have g1 := WE (n := n' + 1) (x := Wj) p1 fun e he => ih (n' + 1) e (p2 e he) (by omega)
  have g2 := WE (n := n' + 1) (x := Wm) p4 fun e he => ih (n' + 1) e (p5 e he) (by omega)
  have g3 := WE (n := n' + 1) (x := Wn) p6 fun e he => ih (n' + 1) e (p7 e he) (by omega)
  have g4 := abf (n := n') (x := Wo) p8 fun q hq => by
   have := p9 q hq
   obtain ⟨k, m, e⟩ := q
   exact ih n' e this (by omega)
  rw [El.eq_2]
  unfold Qi
  dsimp only
  rw [g1, g2, g3, g4, adf, nJ (vX := 16) (k := 16) rfl p3, wF, JY, JY, JY, vY, pz, pz, pz, mE]
  rfl
theorem afY {N n : Nat} {l : Sl Value} (h : QE N l) (hn : 3 * N + 1 ≤ n) : Xn n l = some (QC l) := by
 obtain ⟨n', rfl⟩ : ∃ n', n = n' + 1 := ⟨n - 1, by omega⟩
 obtain ⟨l, x⟩ := l
 rw [QC, mo]
 exact abb h.1 fun v hv => (RZ N n' v (h.2 v hv) (by omega)).1
theorem abg {N n : Nat} {l : Sl Field} (h : GN N l) (hn : 3 * N + 2 ≤ n) : Vu n l = some (MS l) := by
 obtain ⟨n', rfl⟩ : ∃ n', n = n' + 2 := ⟨n - 2, by omega⟩
 obtain ⟨l, x⟩ := l
 rw [MS, mq]
 refine abd h.1 fun q hq => ?_
 have := h.2 q hq
 obtain ⟨m, v⟩ := q
 exact (RZ N n' v this (by omega)).1
theorem WG {N n : Nat} {l : Sl Act} (h : ED N l) (hn : 3 * N + 2 ≤ n) : Bj n l = some (vY l) := by
 obtain ⟨n', rfl⟩ : ∃ n', n = n' + 2 := ⟨n - 2, by omega⟩
 obtain ⟨l, x⟩ := l
 rw [vY, mE]
 refine abf h.1 fun q hq => ?_
 have := h.2 q hq
 obtain ⟨k, m, v⟩ := q
 exact ahx N n' v this (by omega)
theorem ahy {N n : Nat} {c : Cell} (h : qg N c) (hn : 3 * N + 2 ≤ n) : P86 n c = some (MU c) := by
 obtain ⟨k, m, v, u, ds, do_, un, en, r1, r2, od, pa⟩ := c
 obtain ⟨f1, f2, f3, f4, f5, f6, f7, f8⟩ := h
 dsimp only at f1 f2 f3 f4 f5 f6 f7 f8
 have g1 := (RZ N n v f1 (by omega)).1
 have g2 := (RZ N n u f2 (by omega)).1
 have g3 := afY f3 (n := n) (by omega)
 have g4 := WG f4 (n := n) (by omega)
 have g5 := WG f5 (n := n) (by omega)
 have g6 := abg f6 (n := n) (by omega)
 have g7 := WG f7 (n := n) (by omega)
 have g8 := abg f8 (n := n) (by omega)
 simp only [MU]
 clear f1 f2 f3 f4 f5 f6 f7 f8
 revert g1 g2 g3 g4 g5 g6 g7 g8
 generalize cp v = v', cp u = u', QC ds = ds', vY do_ = do', vY un = un', MS en = en', vY od = od', MS pa = pa'
 intro g1 g2 g3 g4 g5 g6 g7 g8
 obtain ⟨_, _, _, ⟨_, _⟩, ⟨_, _⟩, _, _, _⟩ := v
 obtain ⟨_, _, _, ⟨_, _⟩, ⟨_, _⟩, _, _, _⟩ := u
 obtain ⟨_, _, _, ⟨_, _⟩, ⟨_, _⟩, _, _, _⟩ := v'
 obtain ⟨_, _, _, ⟨_, _⟩, ⟨_, _⟩, _, _, _⟩ := u'
 obtain ⟨_, _⟩ := ds
 obtain ⟨_, _⟩ := do_
 obtain ⟨_, _⟩ := un
 obtain ⟨_, _⟩ := en
 obtain ⟨_, _⟩ := od
 obtain ⟨_, _⟩ := pa
 unfold P86
 dsimp only
 rw [g1, g2, g3, g4, g5, g6, g7, g8]
 rfl
theorem abh {N n : Nat} {c : Child} (h : Fit N c.fV) (hn : 3 * N ≤ n) : P62 n c = some (tJ c) := by
 obtain ⟨k, d, m, v⟩ := c
 have g1 := (RZ N n v h (by omega)).1
 simp only [tJ]
 clear h
 revert g1
 generalize cp v = v'
 intro g1
 obtain ⟨_, _, _, ⟨_, _⟩, ⟨_, _⟩, _, _, _⟩ := v
 obtain ⟨_, _, _, ⟨_, _⟩, ⟨_, _⟩, _, _, _⟩ := v'
 unfold P62
 dsimp only
 rw [g1]
 rfl
theorem afZ {N n : Nat} {l : List Cell} {x : Option (List Cell)} (h : l.length * 400 ≤ reachBytes ∧ ∀ c ∈ l, qg N c) (hn : 3 * N + 2 ≤ n) : P63 n ⟨l, x⟩ = some ⟨l.map MU, none⟩ := by
 unfold P63 P85
 dsimp only
 rw [adi, nJ (vX := 400) (k := 400) rfl h.1]
 dsimp only [Option.bind_some]
 rw [aam, MI (bH (by omega) h.1) fun c hc => ahy (h.2 c hc) hn]
 rfl
theorem adk {N n : Nat} {l : List Child} {x : Option (List Child)} (h : l.length * 152 ≤ reachBytes ∧ ∀ c ∈ l, Fit N c.fV) (hn : 3 * N ≤ n) : P64 n ⟨l, x⟩ = some ⟨l.map tJ, none⟩ := by
 unfold P64 P87
 dsimp only
 rw [aao, nJ (vX := 152) (k := 152) rfl h.1]
 dsimp only [Option.bind_some]
 rw [WC, MI (bH (by omega) h.1) fun c hc => abh (h.2 c hc) hn]
 rfl
theorem WH {n : Nat} {l : List Inst} {x : Option (List Inst)} (h1 : l.length * 416 ≤ reachBytes) (h : ∀ v ∈ l, Zf n v = some (dI v)) : P42 (n + 1) ⟨l, x⟩ = some ⟨l.map dI, none⟩ := by
 rw [P42.eq_2]
 unfold Ze P69
 dsimp only
 rw [adj, nJ (vX := 416) (k := 416) rfl h1]
 dsimp only [Option.bind_some]
 rw [aan, MI (bH (by omega) h1) h]
 rfl
theorem adl : ∀ (N n : Nat) (x : Inst), gJ N x → 3 * N + 2 ≤ n → Zf n x = some (dI x) := by
 intro N
 induction N with
 | zero => intro n v h; exact absurd h (by obtain ⟨_, ⟨_, _, _, ⟨_, _, _, ⟨_, _⟩, ⟨_, _⟩, _, _, _⟩⟩, ⟨_, _⟩, ⟨_, _⟩, ⟨_, _⟩, _, _, _, ⟨_, _, _, ⟨_, _⟩, ⟨_, _⟩, _, _, _⟩, _, _, ⟨_, _⟩, _, _⟩ := v; simp [gJ])
 | succ N ih =>
  intro n x h hn
  obtain ⟨n', rfl⟩ : ∃ n', n = n' + 2 := ⟨n - 2, by omega⟩
  obtain ⟨d, c, ⟨s, sx⟩, ⟨o, ox⟩, ⟨k, kx⟩, nd, f, b, e, w, h', ⟨p, px⟩, r, q⟩ := x
  obtain ⟨h1, h2, h3, h6, h4, h5⟩ := h
  have g1 := abh h1 (n := n' + 1) (by omega)
  have g2 := afZ (x := sx) h2 (n := n' + 1) (by omega)
  have g3 := adk (x := ox) h3 (n := n' + 1) (by omega)
  have g4 := (RZ N (n' + 1) e h6 (by omega)).1
  have g5 := WH (n := n') (x := kx) h4.1 fun v hv => ih n' v (h4.2 v hv) (by omega)
  have g6 := WH (n := n') (x := px) h5.1 fun v hv => ih n' v (h5.2 v hv) (by omega)
  rw [dI, Bo, Bo, jH, jH]
  clear h1 h2 h3 h4 h5 h6
  revert g1 g4
  generalize tJ c = c', cp e = e'
  intro g1 g4
  obtain ⟨_, _, _, ⟨_, _, _, ⟨_, _⟩, ⟨_, _⟩, _, _, _⟩⟩ := c
  obtain ⟨_, _, _, ⟨_, _⟩, ⟨_, _⟩, _, _, _⟩ := e
  obtain ⟨_, _, _, ⟨_, _, _, ⟨_, _⟩, ⟨_, _⟩, _, _, _⟩⟩ := c'
  obtain ⟨_, _, _, ⟨_, _⟩, ⟨_, _⟩, _, _, _⟩ := e'
  rw [Zf.eq_2]
  unfold Zd
  dsimp only
  rw [g1, g2, g3, g4, g5, g6]
  rfl
theorem Pb : ∀ (N n : Nat) (a b : Inst), gJ N a → dI a = dI b → 3 * N + 2 ≤ n → OB n a b = some true := by
 intro N
 induction N with
 | zero => intro n v _ h; exact absurd h (by obtain ⟨_, ⟨_, _, _, ⟨_, _, _, ⟨_, _⟩, ⟨_, _⟩, _, _, _⟩⟩, ⟨_, _⟩, ⟨_, _⟩, ⟨_, _⟩, _, _, _, ⟨_, _, _, ⟨_, _⟩, ⟨_, _⟩, _, _, _⟩, _, _, ⟨_, _⟩, _, _⟩ := v; simp [gJ])
 | succ N ih =>
  intro n x y h he hn
  obtain ⟨n', rfl⟩ : ∃ n', n = n' + 2 := ⟨n - 2, by omega⟩
  obtain ⟨d, c, ⟨s, sx⟩, ⟨o, ox⟩, ⟨k, kx⟩, nd, f, b, e, w, h', ⟨p, px⟩, r, q⟩ := x
  obtain ⟨d', c', ⟨s', sx'⟩, ⟨o', ox'⟩, ⟨k', kx'⟩, nd', f', b', e', w', h'', ⟨p', px'⟩, r', q'⟩ := y
  obtain ⟨h1, h2, h3, h6, h4, h5⟩ := h
  simp only [dI, Bo, jH, Inst.mk.injEq, Sl.mk.injEq, and_true] at he
  obtain ⟨rfl, e1, e2, e3, e4, rfl, rfl, rfl, e5, rfl, rfl, e6, rfl, rfl⟩ := he
  have row : ∀ (l m : List Inst) (x y : Option (List Inst)), l.map dI = m.map dI → l.length * 416 ≤ reachBytes → (∀ e ∈ l, gJ N e) → P40 (n' + 1) ⟨l, x⟩ ⟨m, y⟩ = some true := by
   intro l m x y h q1 q2
   have u1 : l.length = m.length := by simpa using congrArg List.length h
   have hl := bH (by omega) q1
   have e1 : (ln l == ln m) = true := by simp [ln, u1]
   rw [P40.eq_2]
   simp only [VA, Ws, e1, Bool.not_true, cond_false]
   rw [(pq (a := l) (b := m) (p := OB n') rfl u1.symm (by omega) (fun i x y hx hy => ih n' x y (q2 _ (List.mem_of_getElem? hx)) (by
    have := congrArg (fun l => l[i]?) h
    simpa [List.getElem?_map, hx, hy] using this) (by omega))).use (t := some true) (f := some false) (fun _ => rfl) (fun _ => rfl)]
   rfl
  have g1 := QG (MF h1 e1) h1 (n := n' + 1) (by omega)
  have g2 := aad (x := sx) (y := sx') (iB e2 fun u hu a _ e => aaf (h2.2 u hu) e) h2.1 h2.2 (n := n' + 1) (by omega)
  have g3 := Wt (x := ox) (y := ox') (iB e3 fun u hu a _ e => MF (h3.2 u hu) e) h3.1 h3.2 (n := n' + 1) (by omega)
  have g4 := row k k' kx kx' e4 h4.1 h4.2
  have g5 := nW N (n' + 1) e e' (Ah N _ _ h6 e5) h6 (by omega)
  have g6 := row p p' px px' e6 h5.1 h5.2
  clear h1 h2 h3 h4 h5 h6 e1 e5
  obtain ⟨_, _, _, ⟨_, _, _, ⟨_, _⟩, ⟨_, _⟩, _, _, _⟩⟩ := c
  obtain ⟨_, _, _, ⟨_, _⟩, ⟨_, _⟩, _, _, _⟩ := e
  obtain ⟨_, _, _, ⟨_, _, _, ⟨_, _⟩, ⟨_, _⟩, _, _, _⟩⟩ := c'
  obtain ⟨_, _, _, ⟨_, _⟩, ⟨_, _⟩, _, _, _⟩ := e'
  rw [OB.eq_2]
  unfold Vz
  dsimp only
  simp only [beq_self_eq_true, kE, cond_true, g1, g2, g3, g4, g5, g6, Option.bind_some]
theorem sS (a b : Bool) : (bif a then some b else some false) = some (a && b) := by cases a <;> rfl
theorem dY {A : Type} (b : Bool) (x y : A) : (bif b then some x else some y) = some (bif b then x else y) := by cases b <;> rfl
def keyOf : Inst → ByteArray | .mk _ c _ _ _ _ _ _ _ _ _ _ _ _ => c.Key
theorem WI (x : Inst) : keyOf (dI x) = keyOf x := by cases x; simp only [dI, keyOf, tJ]
noncomputable def QM (l : List ByteArray) : List (ByteArray × Bool) := l.foldl (fun m k => yP m k true) []
noncomputable def MJ (l : List ByteArray) : Bool := decide ((l.length : Int) ≤ 4096) && (ln (QM l) == (l.length : Int))
theorem QN {fu : Nat} {l : List Inst} {x : Option (List Inst)} (hn : l.length ≤ 8796093022208) : P59 fu ⟨l, x⟩ = some (MJ (l.map keyOf)) := by
 unfold P59
 dsimp only
 have hw : wl (zR fu l) ([], 0) = some (QM (l.map keyOf), (l.length : Int)) := IJ (f := zR fu l) l (fun m a => yP m (keyOf a) true) (fun s k => (s, (k : Int))) (fun _ _ => True) [] trivial (b := (QM (l.map keyOf), (l.length : Int))) (fun k hk s _ => ⟨by
  unfold zR
  dsimp only
  rw [kK hk, iM l k hk]
  generalize l[k] = y
  obtain ⟨_, ⟨_, _, _, ⟨_, _, _, ⟨_, _⟩, ⟨_, _⟩, _, _, _⟩⟩, ⟨_, _⟩, ⟨_, _⟩, ⟨_, _⟩, _, _, _, ⟨_, _, _, ⟨_, _⟩, ⟨_, _⟩, _, _, _⟩, _, _, ⟨_, _⟩, _, _⟩ := y
  simp only [cond_true, Option.bind_some, lV (show k < 9223372036854775807 by omega), keyOf], trivial⟩) (fun s _ hs => by
  unfold zR
  dsimp only
  rw [lW, hs, QM, List.foldl_map]
  rfl)
 rw [hw]
 simp only [Option.bind_some, sS, MJ, List.length_map, Ud]
 rfl
theorem zh {fu : Nat} {l : List Int} {x : Option (List Int)} {k : Int} (hn : l.length ≤ 8796093022208) : nI fu ⟨l, x⟩ k = some (l.any fun a => k == a) := by
 have e : Ou fu l k = Ac (fun a => some (k == a)) l := by
  funext q
  obtain ⟨o, i⟩ := q
  rfl
 unfold nI P58 P82
 dsimp only
 have h := OW (p := fun a => some (k == a)) (l := l) (fun a => k == a) (by omega) (fun _ _ => rfl)
 rw [e]
 have h2 := find_ok (p := fun a => some (k == a)) (l := l) (fun a => k == a) (by omega) (fun _ _ => rfl)
 rw [h2]
 rw [← zO]
 cases l.findIdx? (fun a => k == a) with
 | none => rfl
 | some j => simp only [Option.bind_some, Option.isSome_some]; rw [decide_eq_true (by omega)]
def EH : Value → Bool | .mk k n s l f e c b => k == 0 && (n == 0 && (seq s ByteArray.empty && (e == 0 && (seq c ByteArray.empty && (b == false && (ln l.l == 0 && ln f.l == 0))))))
theorem WJ (v : Value) : EH (cp v) = EH v := by
 obtain ⟨k, n, s, ⟨l, x⟩, ⟨f, y⟩, e, c, b⟩ := v
 simp only [cp, QC, MS, mo, mq, EH, ln, List.length_map]
theorem aap {n : Nat} {v : Value} : Xm (n + 3) v (Value.mk 0 0 ByteArray.empty (Sl.mk [] (some [])) (Sl.mk [] (some [])) 0 ByteArray.empty false) = some (EH v) := by
 obtain ⟨k, nn, s, ⟨l, x⟩, ⟨f, y⟩, e, c, b⟩ := v
 have h1 : P83 (n + 2) ⟨l, x⟩ ⟨[], some []⟩ (Xm (n + 2)) = some (ln l == 0) := by
  unfold P83
  cases l with
  | nil =>
   have hw : wl (Ov (n + 2) (Xm (n + 2)) [] []) 0 = some (.inl 0) := iV rfl
   dsimp only
   rw [hw]
   rfl
  | cons a r =>
   have : (ln (a :: r) == ln ([] : List Value)) = false := by simp [ln]; omega
   have h2 : (ln (a :: r) == 0) = false := this
   simp only [this, h2, Bool.not_false, cond_true]
 have h2 : P84 (n + 2) ⟨f, y⟩ ⟨[], some []⟩ = some (ln f == 0) := by
  rw [P84.eq_2]
  unfold YZ YV
  dsimp only
  cases f with
  | nil =>
   have hw : wl (Jj (n + 1) (Vt (n + 1)) [] []) 0 = some (.inl 0) := iV rfl
   rw [hw]
   rfl
  | cons a r =>
   have : (ln (a :: r) == ln ([] : List Field)) = false := by simp [ln]; omega
   have h2 : (ln (a :: r) == 0) = false := this
   simp only [this, h2, Bool.not_false, cond_true, Option.bind_some]
 rw [Xm.eq_2]
 unfold YW
 dsimp only
 simp only [h1, h2, EH, Option.bind_some]
 simp only [sS, Option.bind_some]
noncomputable def kU : Inst → Bool
 | .mk d c s o k n f b e w h p r q =>
  decide (0 < d) && decide (1 ≤ c.Kind) && decide (c.Kind ≤ 9) && decide (0 ≤ n) && MJ (k.l.map keyOf) && MJ (p.l.map keyOf) &&
   ((ln s.l == 0) || [2, 3].any fun a => c.Kind == a) && ((n == 0) || [1, 9].any fun a => c.Kind == a) && ((!f && (!b && EH e)) || [7].any fun a => c.Kind == a) &&
   ((seq w ByteArray.empty && !h) || [8].any fun a => c.Kind == a) && ((ln p.l == 0) || (c.Kind == 8 && h)) && ((ln k.l == 0) || !([9].any fun a => c.Kind == a))
theorem Sg (x : Inst) : kU (dI x) = kU x := by
 obtain ⟨d, c, s, o, ⟨k, kx⟩, n, f, b, e, w, h, ⟨p, px⟩, r, q⟩ := x
 simp only [dI, Bo, jH, kU, tJ, List.map_map, ln, List.length_map, WJ]
 rw [show keyOf ∘ dI = keyOf from funext WI]
theorem WK {N n : Nat} {x : Inst} (hf : gJ N x) (hn : 3 ≤ n) : P26 n x = some (kU x) := by
 obtain ⟨n', rfl⟩ : ∃ n', n = n' + 3 := ⟨n - 3, by omega⟩
 cases N with
 | zero => exact absurd hf (by obtain ⟨_, ⟨_, _, _, ⟨_, _, _, ⟨_, _⟩, ⟨_, _⟩, _, _, _⟩⟩, ⟨_, _⟩, ⟨_, _⟩, ⟨_, _⟩, _, _, _, ⟨_, _, _, ⟨_, _⟩, ⟨_, _⟩, _, _, _⟩, _, _, ⟨_, _⟩, _, _⟩ := x; simp [gJ])
 | succ N =>
 obtain ⟨d, c, ⟨s, sx⟩, ⟨o, ox⟩, ⟨k, kx⟩, nd, f, b, e, w, h, ⟨p, px⟩, r, q⟩ := x
 obtain ⟨h1, h2, h3, h6, h4, h5⟩ := hf
 have g1 := QN (fu := n' + 3) (x := kx) (bH (by omega) h4.1)
 have g2 := QN (fu := n' + 3) (x := px) (bH (by omega) h5.1)
 have g3 := aap (n := n') (v := e)
 have i1 : ∀ j : Int, nI (n' + 3) ⟨[2, 3], some []⟩ j = _ := fun j => zh (by simp)
 have i2 : ∀ j : Int, nI (n' + 3) ⟨[1, 9], some []⟩ j = _ := fun j => zh (by simp)
 have i3 : ∀ j : Int, nI (n' + 3) ⟨[7], some []⟩ j = _ := fun j => zh (by simp)
 have i4 : ∀ j : Int, nI (n' + 3) ⟨[8], some []⟩ j = _ := fun j => zh (by simp)
 have i5 : ∀ j : Int, nI (n' + 3) ⟨[9], some []⟩ j = _ := fun j => zh (by simp)
 clear h1 h2 h3 h4 h5 h6
 obtain ⟨_, _, _, ⟨_, _, _, ⟨_, _⟩, ⟨_, _⟩, _, _, _⟩⟩ := c
 revert g3
 generalize hne : EH e = ne
 intro g3
 obtain ⟨_, _, _, ⟨_, _⟩, ⟨_, _⟩, _, _, _⟩ := e
 unfold P26 Y0
 dsimp only
 simp only [g1, g2, g3, i1, i2, i3, i4, i5, Option.bind_some, kU, hne]
 simp only [dY, Option.bind_some]
 congr 1
 grind
abbrev Seen := List (Int × Bool)
def vZ (m : Seen) : Prop := ∀ d v, uK m d = some v → v = true
theorem WL {m : Seen} (h : vZ m) (d : Int) : vZ (yP m d true) := by
 intro e v hv
 rw [Dq] at hv
 split at hv
 ·cases hv; rfl
 ·exact h e v hv
def qE (D : Nat) (x : Inst) : Prop := low D x ∧ ∀ q ∈ nodes x, kU q = true
def Good (P : Prop) (ns : List Int) (b : Bool) (m m' : Seen) : Prop :=
 (b = true ↔ P ∧ ns.Nodup ∧ ∀ z ∈ ns, uK m z = none) ∧ (b = true → ∀ z, uK m' z = none ↔ uK m z = none ∧ z ∉ ns)
theorem WM {m : Seen} : Good True [] true m m := by simp [Good]
theorem QO {P : Prop} {a r : List Int} {Q : Prop} {m m1 m2 : Seen} (h : Good P a false m m1) : Good (P ∧ Q) (a ++ r) false m m2 := by
 refine ⟨⟨fun h => (by cases h), fun g => ?_⟩, fun h => (by cases h)⟩
 obtain ⟨⟨g1, g2⟩, g3, g4⟩ := g
 exact absurd (h.1.2 ⟨g1, (List.nodup_append.1 g3).1, fun z hz => g4 z (List.mem_append_left _ hz)⟩) (by simp)
theorem vv {P Q : Prop} {a r : List Int} {b : Bool} {m m1 m2 : Seen} (h : Good P a true m m1) (k : Good Q r b m1 m2) : Good (P ∧ Q) (a ++ r) b m m2 := by
 obtain ⟨h1, h2⟩ := h
 obtain ⟨k1, k2⟩ := k
 obtain ⟨g1, g2, g3⟩ := h1.1 rfl
 have h2 := h2 rfl
 refine ⟨⟨fun hb => ?_, fun g => ?_⟩, fun hb z => ?_⟩
 ·obtain ⟨q1, q2, q3⟩ := k1.1 hb
  refine ⟨⟨g1, q1⟩, List.nodup_append.2 ⟨g2, q2, fun x hx y hy e => ?_⟩, fun z hz => ?_⟩
  ·subst e
   exact ((h2 x).1 (q3 x hy)).2 hx
  ·rcases List.mem_append.1 hz with hz | hz
   ·exact g3 z hz
   ·exact ((h2 z).1 (q3 z hz)).1
 ·obtain ⟨⟨_, q1⟩, q2, q3⟩ := g
  obtain ⟨_, q4, q5⟩ := List.nodup_append.1 q2
  exact k1.2 ⟨q1, q4, fun z hz => (h2 z).2 ⟨q3 z (List.mem_append_right _ hz), fun hza => q5 z hza z hz rfl⟩⟩
 ·rw [k2 hb z, h2 z, List.mem_append]
  constructor
  ·rintro ⟨⟨a1, a2⟩, a3⟩; exact ⟨a1, fun q => q.elim a2 a3⟩
  ·rintro ⟨a1, a2⟩; exact ⟨⟨a1, fun q => a2 (.inl q)⟩, fun q => a2 (.inr q)⟩
theorem vw {P Q : Prop} {a : List Int} {b : Bool} {m m1 : Seen} (h : Good P a b m m1) (e : P ↔ Q) : Good Q a b m m1 := ⟨by rw [← e]; exact h.1, h.2⟩
theorem adn {fu : Nat} {d : Int} {D : Nat} {l : List Inst} {p : Inst → Int → Seen → Option (Bool × Seen)} (hn : l.length ≤ 8796093022208)
  (hp : ∀ a ∈ l, ∀ m, vZ m → ∃ b m', p a d m = some (!b, m') ∧ vZ m' ∧ Good (qE D a) (nums a) b m m') :
  ∀ (k i : Nat), k + i = l.length → ∀ (m : Seen) (g : Int), vZ m → ∃ q, wl (rA fu p d l) (m, g, (i : Int)) = some q ∧
   (match q with | .inl (m', _, _) => vZ m' ∧ Good (∀ a ∈ l.drop i, qE D a) ((l.drop i).flatMap nums) true m m' | .inr (m', j, _) => 0 ≤ j ∧ vZ m' ∧ Good (∀ a ∈ l.drop i, qE D a) ((l.drop i).flatMap nums) false m m') := by
 intro k
 induction k with
 | zero =>
  intro i hi m g hm
  have : i = l.length := by omega
  subst this
  refine ⟨.inl (m, g, (l.length : Int)), iV ?_, hm, by simpa [List.drop_length] using WM⟩
  unfold rA
  dsimp only
  rw [lW]
  rfl
 | succ k ih =>
  intro i hi m g hm
  have hk : i < l.length := by omega
  obtain ⟨b, m', h1, h2, h3⟩ := hp l[i] (List.getElem_mem hk) m hm
  have e : rA fu p d l (m, g, (i : Int)) = some (bif !b then .inr (.inr (m', (i : Int), (i : Int))) else .inl (m', g, ((i + 1 : Nat) : Int))) := by
   unfold rA
   dsimp only
   rw [kK hk, iM l i hk]
   revert h1
   generalize l[i] = y
   intro h1
   obtain ⟨_, ⟨_, _, _, ⟨_, _, _, ⟨_, _⟩, ⟨_, _⟩, _, _, _⟩⟩, ⟨_, _⟩, ⟨_, _⟩, ⟨_, _⟩, _, _, _, ⟨_, _, _, ⟨_, _⟩, ⟨_, _⟩, _, _, _⟩, _, _, ⟨_, _⟩, _, _⟩ := y
   simp only [cond_true, Option.bind_some, h1, lV (show i < 9223372036854775807 by omega)]
   cases b <;> rfl
  rw [List.drop_eq_getElem_cons hk, List.flatMap_cons]
  have hall : (qE D l[i] ∧ ∀ a ∈ l.drop (i + 1), qE D a) ↔ ∀ a ∈ l[i] :: l.drop (i + 1), qE D a := List.forall_mem_cons.symm
  cases b with
  | false =>
   refine ⟨.inr (m', (i : Int), (i : Int)), iV e, by omega, h2, vw (QO h3) hall⟩
  | true =>
   obtain ⟨q, h4, h5⟩ := ih (i + 1) (by omega) m' g h2
   rw [kR e]
   refine ⟨q, h4, ?_⟩
   rcases q with ⟨m2, g2, j2⟩ | ⟨m2, g2, j2⟩
   ·exact ⟨h5.1, vw (vv h3 h5.2) hall⟩
   ·exact ⟨h5.1, h5.2.1, vw (vv h3 h5.2.2) hall⟩
theorem ado {n : Nat} {d : Int} {D : Nat} {l : List Inst} {x : Option (List Inst)} (hn : l.length ≤ 8796093022208)
  (hp : ∀ a ∈ l, ∀ m, vZ m → ∃ b m', Ej n a d m = some (!b, m') ∧ vZ m' ∧ Good (qE D a) (nums a) b m m') (m : Seen) (hm : vZ m) :
  ∃ b m', yX (n + 2) ⟨l, x⟩ d m = some (!b, m') ∧ vZ m' ∧ Good (∀ a ∈ l, qE D a) (l.flatMap nums) b m m' := by
 obtain ⟨q, h1, h2⟩ := adn (fu := n) hn hp l.length 0 (by omega) m 0 hm
 rw [yX.eq_2]
 unfold Jl
 dsimp only
 rw [Gq.eq_2]
 unfold Jm
 dsimp only
 rw [show ((0 : Nat) : Int) = 0 from rfl] at h1
 rw [h1]
 rw [List.drop_zero] at h2
 rcases q with ⟨m2, g2, j2⟩ | ⟨m2, g2, j2⟩
 ·exact ⟨true, m2, rfl, h2.1, h2.2⟩
 ·exact ⟨false, m2, by simp only [Option.bind_some, Bool.not_false]; rw [decide_eq_true h2.1], h2.2.1, h2.2.2⟩
theorem vV (D : Nat) (x : Inst) : qE (D + 1) x ↔ kU x = true ∧ (∀ a ∈ eB x, qE D a) ∧ ∀ a ∈ cK x, qE D a := by
 constructor
 ·rintro ⟨⟨h1, h2⟩, h3⟩
  exact ⟨h3 x (gV x), fun a ha => ⟨h1 a ha, fun q hq => h3 q (eD.2 (.inr (.inl ⟨a, ha, hq⟩)))⟩, fun a ha => ⟨h2 a ha, fun q hq => h3 q (eD.2 (.inr (.inr ⟨a, ha, hq⟩)))⟩⟩
 ·rintro ⟨h1, h2, h3⟩
  refine ⟨⟨fun a ha => (h2 a ha).1, fun a ha => (h3 a ha).1⟩, fun q hq => ?_⟩
  rcases eD.1 hq with rfl | ⟨a, ha, hq⟩ | ⟨a, ha, hq⟩
  ·exact h1
  ·exact (h2 a ha).2 q hq
  ·exact (h3 a ha).2 q hq
theorem adp : ∀ (N D n : Nat) (x : Inst), gJ N x → D ≤ 256 → 4 * N + 4 ≤ n → ∀ m, vZ m → ∃ b m', yV n x (257 - (D : Int)) m = some (b, m') ∧ vZ m' ∧ Good (qE D x) (nums x) b m m' := by
 intro N
 induction N with
 | zero => intro D n v h; exact absurd h (by obtain ⟨_, ⟨_, _, _, ⟨_, _, _, ⟨_, _⟩, ⟨_, _⟩, _, _, _⟩⟩, ⟨_, _⟩, ⟨_, _⟩, ⟨_, _⟩, _, _, _, ⟨_, _, _, ⟨_, _⟩, ⟨_, _⟩, _, _, _⟩, _, _, ⟨_, _⟩, _, _⟩ := v; simp [gJ])
 | succ N ih =>
  intro D n x hf hD hn m hm
  have ha := WK hf (n := n - 1) (by omega)
  obtain ⟨n', rfl⟩ : ∃ n', n = n' + 4 := ⟨n - 4, by omega⟩
  have hid : iH x ∈ nums x := by rw [iZ]; simp
  rw [yV.eq_2]
  cases D with
  | zero =>
   refine ⟨false, m, ?_, hm, ⟨fun h => (by cases h), fun h => (h.1.1).elim⟩, fun h => by cases h⟩
   obtain ⟨_, ⟨_, _, _, ⟨_, _, _, ⟨_, _⟩, ⟨_, _⟩, _, _, _⟩⟩, ⟨_, _⟩, ⟨_, _⟩, ⟨_, _⟩, _, _, _, ⟨_, _, _, ⟨_, _⟩, ⟨_, _⟩, _, _, _⟩, _, _, ⟨_, _⟩, _, _⟩ := x
   unfold sN
   rfl
  | succ D =>
   have hdp : (!(decide ((256 : Int) < 257 - ((D + 1 : Nat) : Int)))) = true := by rw [decide_eq_false (by omega)]; rfl
   cases hg : uK m (iH x) with
   | some v =>
    have hv := hm _ _ hg
    subst hv
    refine ⟨false, m, ?_, hm, ⟨fun h => (by cases h), fun h => ?_⟩, fun h => by cases h⟩
    ·obtain ⟨_, ⟨_, _, _, ⟨_, _, _, ⟨_, _⟩, ⟨_, _⟩, _, _, _⟩⟩, ⟨_, _⟩, ⟨_, _⟩, ⟨_, _⟩, _, _, _, ⟨_, _, _, ⟨_, _⟩, ⟨_, _⟩, _, _, _⟩, _, _, ⟨_, _⟩, _, _⟩ := x
     unfold sN
     simp only [iH] at hg
     simp only [hdp, hg, cond_true, Bool.not_true, cond_false, Option.bind_some]
    ·have := h.2.2 _ hid; rw [hg] at this; cases this
   | none =>
    cases hal : kU x with
    | false =>
     refine ⟨false, m, ?_, hm, ⟨fun h => (by cases h), fun h => ?_⟩, fun h => by cases h⟩
     ·rw [hal] at ha
      obtain ⟨_, ⟨_, _, _, ⟨_, _, _, ⟨_, _⟩, ⟨_, _⟩, _, _, _⟩⟩, ⟨_, _⟩, ⟨_, _⟩, ⟨_, _⟩, _, _, _, ⟨_, _, _, ⟨_, _⟩, ⟨_, _⟩, _, _, _⟩, _, _, ⟨_, _⟩, _, _⟩ := x
      unfold sN
      simp only [iH] at hg
      rw [show n' + 4 - 1 = n' + 3 from rfl] at ha
      simp only [hdp, hg, ha, cond_true, Bool.not_false, Option.bind_some]
     ·have := ((vV D x).1 h.1).1; rw [hal] at this; cases this
    | true =>
     rw [hal] at ha
     have hrow : ∀ (l : List Inst) (y : Option (List Inst)), l.length * 416 ≤ reachBytes → (∀ a ∈ l, gJ N a) → ∀ m, vZ m →
       ∃ b m', yX (n' + 3) ⟨l, y⟩ (257 - ((D + 1 : Nat) : Int)) m = some (!b, m') ∧ vZ m' ∧ Good (∀ a ∈ l, qE D a) (l.flatMap nums) b m m' := by
      intro l y h1 h2 m hm
      refine ado (n := n' + 1) (bH (by omega) h1) (fun a ha m hm => ?_) m hm
      obtain ⟨b, m', g1, g2, g3⟩ := ih D n' a (h2 a ha) (by omega) (by omega) m hm
      refine ⟨b, m', ?_, g2, g3⟩
      rw [Ej.eq_2]
      unfold Jk
      obtain ⟨_, ⟨_, _, _, ⟨_, _, _, ⟨_, _⟩, ⟨_, _⟩, _, _, _⟩⟩, ⟨_, _⟩, ⟨_, _⟩, ⟨_, _⟩, _, _, _, ⟨_, _, _, ⟨_, _⟩, ⟨_, _⟩, _, _, _⟩, _, _, ⟨_, _⟩, _, _⟩ := a
      dsimp only
      have e : dS (257 - ((D + 1 : Nat) : Int) + 1) = 257 - (D : Int) := by rw [lU (by omega) (by omega)]; omega
      rw [e, g1]
      rfl
     have hs := vV D x
     have hns := iZ x
     obtain ⟨d, c, s, o, ⟨k, kx⟩, nd, f, b, e, w, h, ⟨p, px⟩, r, q⟩ := x
     obtain ⟨_, _, _, _, q4, q5⟩ := hf
     obtain ⟨b1, m1, g1, g2, g3⟩ := hrow k kx q4.1 q4.2 (yP m d true) (WL hm d)
     simp only [iH] at hg
     simp only [iH, eB, cK] at hs hns
     have one : Good (kU (Inst.mk d c s o ⟨k, kx⟩ nd f b e w h ⟨p, px⟩ r q) = true) [d] true m (yP m d true) := by
      refine ⟨⟨fun _ => ⟨hal, by simp, by simpa using hg⟩, fun _ => rfl⟩, fun _ z => ?_⟩
      rw [Dq]
      by_cases hz : z = d
      ·simp [hz]
      ·simp [hz]
     have hP : ∀ fu1 fu2 fu4, ∃ bb m', sN (n' + 3) fu1 fu2 (yX (n' + 3)) fu4 (Inst.mk d c s o ⟨k, kx⟩ nd f b e w h ⟨p, px⟩ r q) (257 - ((D + 1 : Nat) : Int)) m = some (bb, m') ∧ vZ m' ∧
       Good (qE (D + 1) (Inst.mk d c s o ⟨k, kx⟩ nd f b e w h ⟨p, px⟩ r q)) (nums (Inst.mk d c s o ⟨k, kx⟩ nd f b e w h ⟨p, px⟩ r q)) bb m m' := by
      intro fu1 fu2 fu4
      have ha : P26 (n' + 3) (Inst.mk d c s o ⟨k, kx⟩ nd f b e w h ⟨p, px⟩ r q) = some true := ha
      rw [hns]
      cases b1 with
      | false =>
       refine ⟨false, m1, ?_, g2, vw (vv one (QO (r := p.flatMap nums) (Q := ∀ a ∈ p, qE D a) (m2 := m1) g3)) hs.symm⟩
       obtain ⟨_, _, _, ⟨_, _, _, ⟨_, _⟩, ⟨_, _⟩, _, _, _⟩⟩ := c
       obtain ⟨_, _, _, ⟨_, _⟩, ⟨_, _⟩, _, _, _⟩ := e
       obtain ⟨_, _⟩ := s
       obtain ⟨_, _⟩ := o
       unfold sN
       simp only [hdp, hg, ha, g1, cond_true, cond_false, Bool.not_true, Bool.not_false, Option.bind_some]
      | true =>
       obtain ⟨b2, m2, g4, g5, g6⟩ := hrow p px q5.1 q5.2 m1 g2
       refine ⟨b2, m2, ?_, g5, vw (vv one (vv g3 g6)) hs.symm⟩
       obtain ⟨_, _, _, ⟨_, _, _, ⟨_, _⟩, ⟨_, _⟩, _, _, _⟩⟩ := c
       obtain ⟨_, _, _, ⟨_, _⟩, ⟨_, _⟩, _, _, _⟩ := e
       obtain ⟨_, _⟩ := s
       obtain ⟨_, _⟩ := o
       unfold sN
       simp only [hdp, hg, ha, g1, g4, cond_true, cond_false, Bool.not_true, Bool.not_false, Bool.not_not, Option.bind_some]
     exact hP _ _ _
def zi (x : Inst) : Prop := qE 256 x ∧ (nums x).Nodup
theorem MK {N n : Nat} {x : Inst} (hf : gJ N x) (hn : 4 * N + 4 ≤ n) : ∃ b, P9 n x = some b ∧ (b = true ↔ zi x) := by
 obtain ⟨b, m', h1, h2, h3⟩ := adp N 256 n x hf (Nat.le_refl _) hn [] (by intro d v h; cases h)
 refine ⟨b, ?_, ?_⟩
 ·rw [show (257 - ((256 : Nat) : Int)) = 1 from rfl] at h1
  obtain ⟨_, ⟨_, _, _, ⟨_, _, _, ⟨_, _⟩, ⟨_, _⟩, _, _, _⟩⟩, ⟨_, _⟩, ⟨_, _⟩, ⟨_, _⟩, _, _, _, ⟨_, _, _, ⟨_, _⟩, ⟨_, _⟩, _, _, _⟩, _, _, ⟨_, _⟩, _, _⟩ := x
  unfold P9
  dsimp only
  rw [h1]
  rfl
 ·rw [h3.1]
  exact ⟨fun h => ⟨h.1, h.2.1⟩, fun h => ⟨h.1, h.2, fun _ _ => rfl⟩⟩
theorem GU {A B : Type} {g : A → List B} : ∀ {l : List A} {b : List B}, l.foldl (fun s a => s ++ g a) b = b ++ l.flatMap g
 | [], b => by simp
 | a :: r, b => by rw [List.foldl_cons, GU, List.flatMap_cons, List.append_assoc]
def xD : Inst → Bool | .mk _ c _ _ _ _ _ _ _ _ h _ _ _ => c.Kind == 8 && h
theorem EI (fu : Nat) (x : Inst) : Y0 fu x = some (xD x) := by
 obtain ⟨_, ⟨_, _, _, ⟨_, _, _, ⟨_, _⟩, ⟨_, _⟩, _, _, _⟩⟩, ⟨_, _⟩, ⟨_, _⟩, ⟨_, _⟩, _, _, _, ⟨_, _, _, ⟨_, _⟩, ⟨_, _⟩, _, _, _⟩, _, _, ⟨_, _⟩, _, _⟩ := x
 unfold Y0
 simp only [sS, Option.bind_some, xD]
theorem mF {x : Inst} (h : kU x = true) : 0 < iH x := by
 obtain ⟨d, c, s, o, ⟨k, kx⟩, n, f, b, e, w, h', ⟨p, px⟩, r, q⟩ := x
 simp only [kU, Bool.and_eq_true, decide_eq_true_eq] at h
 exact h.1.1.1.1.1.1.1.1.1.1.1
theorem vB {x : Inst} (h : kU x = true) (hh : xD x = false) : cK x = [] := by
 obtain ⟨d, c, s, o, ⟨k, kx⟩, n, f, b, e, w, h', ⟨p, px⟩, r, q⟩ := x
 simp only [kU, Bool.and_eq_true, decide_eq_true_eq] at h
 have h2 := h.1.2
 simp only [xD] at hh
 rw [hh, Bool.or_false] at h2
 have : p.length = 0 := by simpa [ln] using h2
 simpa [cK] using this
theorem aaq {N n : Nat} {x : Inst} {b : List Inst} (hf : gJ N x) (hn : 3 * N + 2 ≤ n) (hb : b.length + 1 ≤ 300000000000) : Mk n x b = some (b ++ [dI x]) := by
 have g1 := adl N n x hf hn
 revert g1
 generalize dI x = t
 intro g1
 have hr : ∀ z : Inst, room 416 (ln (b ++ [z])) = true := fun z => sK (by simp only [ln, List.length_append, List.length_cons, List.length_nil]; omega)
 have hi : ∀ z : Inst, idx (b ++ [z]) (ln b) = some z := fun z => by rw [Ud, vP]; simp
 have hs : ∀ z t : Inst, List.set (b ++ [z]) (Int.toNat (ln b)) t = b ++ [t] := fun z t => by simp [ln]
 obtain ⟨_, ⟨_, _, _, ⟨_, _, _, ⟨_, _⟩, ⟨_, _⟩, _, _, _⟩⟩, ⟨_, _⟩, ⟨_, _⟩, ⟨_, _⟩, _, _, _, ⟨_, _, _, ⟨_, _⟩, ⟨_, _⟩, _, _, _⟩, _, _, ⟨_, _⟩, _, _⟩ := x
 obtain ⟨_, ⟨_, _, _, ⟨_, _, _, ⟨_, _⟩, ⟨_, _⟩, _, _, _⟩⟩, ⟨_, _⟩, ⟨_, _⟩, ⟨_, _⟩, _, _, _, ⟨_, _, _, ⟨_, _⟩, ⟨_, _⟩, _, _, _⟩, _, _, ⟨_, _⟩, _, _⟩ := t
 unfold Mk
 simp only [g1, hr, hi, hs, cond_true, Option.bind_some]
theorem ML {n : Nat} {l : List Inst} {b : List Inst} (hb : b.length + (l.flatMap nodes).length ≤ 300000000000) (hl : l.length ≤ 8796093022208) (hid : ∀ a ∈ l, 0 < iH a)
  {p : Inst → Option X.Ex → List Inst → Option (Bool × Option X.Ex × List Inst)}
  (hp : ∀ a ∈ l, ∀ b : List Inst, b.length + (nodes a).length ≤ 300000000000 → p a none b = some (true, none, b ++ (nodes a).map dI)) :
  wl (rD n p l) (none, b, 0) = some (.inl (none, b ++ (l.flatMap nodes).map dI, (l.length : Int))) := by
 refine IJ (f := rD n p l) l (fun s a => s ++ (nodes a).map dI) (fun s k => (none, s, (k : Int))) (fun k s => s.length + ((l.drop k).flatMap nodes).length ≤ 300000000000) b (by simpa using hb) (fun k hk s hs => ?_) (fun s _ hs => ?_)
 ·rw [List.drop_eq_getElem_cons hk, List.flatMap_cons, List.length_append] at hs
  have h1 := hp l[k] (List.getElem_mem hk) s (by omega)
  have h2 := hid l[k] (List.getElem_mem hk)
  refine ⟨?_, by simp only [List.length_append, List.length_map]; omega⟩
  unfold rD
  dsimp only
  rw [kK hk, iM l k hk]
  revert h1 h2
  generalize l[k] = y
  intro h1 h2
  have h3 : (iH y == 0) = false := by simp; omega
  obtain ⟨_, ⟨_, _, _, ⟨_, _, _, ⟨_, _⟩, ⟨_, _⟩, _, _, _⟩⟩, ⟨_, _⟩, ⟨_, _⟩, ⟨_, _⟩, _, _, _, ⟨_, _, _, ⟨_, _⟩, ⟨_, _⟩, _, _, _⟩, _, _, ⟨_, _⟩, _, _⟩ := y
  simp only [iH] at h3
  simp only [cond_true, cond_false, Option.bind_some, h1, h3, Bool.not_false, Bool.not_true, lV (show k < 9223372036854775807 by omega)]
 ·unfold rD
  dsimp only
  rw [lW, hs, GU, List.map_flatMap]
  rfl
theorem aar : ∀ (N D n : Nat) (x : Inst) (b : List Inst), gJ N x → qE D x → 3 * N + 5 ≤ n → b.length + (nodes x).length ≤ 300000000000 → AU n x b = some (b ++ (nodes x).map dI) := by
 intro N
 induction N with
 | zero => intro D n v b h; exact absurd h (by obtain ⟨_, ⟨_, _, _, ⟨_, _, _, ⟨_, _⟩, ⟨_, _⟩, _, _, _⟩⟩, ⟨_, _⟩, ⟨_, _⟩, ⟨_, _⟩, _, _, _, ⟨_, _, _, ⟨_, _⟩, ⟨_, _⟩, _, _, _⟩, _, _, ⟨_, _⟩, _, _⟩ := v; simp [gJ])
 | succ N ih =>
  intro D n x b hf ho hn hb
  cases D with
  | zero => exact ho.1.elim
  | succ D =>
   obtain ⟨h1, h2, h3⟩ := (vV D x).1 ho
   have hid := mF h1
   have hsp := vB h1
   obtain ⟨n', rfl⟩ : ∃ n', n = n' + 3 := ⟨n - 3, by omega⟩
   rw [kF, List.length_cons, List.length_append] at hb
   have ga := aaq (b := b) hf (n := n' + 2) (by omega) (by omega)
   have gh := EI (n' + 1) x
   have hp : ∀ a, gJ N a → qE D a → ∀ b : List Inst, b.length + (nodes a).length ≤ 300000000000 → qz (n' + 1) a none b = some (true, none, b ++ (nodes a).map dI) := by
    intro a h4 h5 b h6
    have := ih D n' a b h4 h5 (by omega) h6
    rw [qz.eq_2]
    unfold BO
    obtain ⟨_, ⟨_, _, _, ⟨_, _, _, ⟨_, _⟩, ⟨_, _⟩, _, _, _⟩⟩, ⟨_, _⟩, ⟨_, _⟩, ⟨_, _⟩, _, _, _, ⟨_, _, _, ⟨_, _⟩, ⟨_, _⟩, _, _, _⟩, _, _, ⟨_, _⟩, _, _⟩ := a
    dsimp only
    rw [this]
    rfl
   rw [kF]
   obtain ⟨d, c, s, o, ⟨k, kx⟩, nd, f, b', e, w, h, ⟨p, px⟩, r, q⟩ := x
   obtain ⟨_, _, _, _, q4, q5⟩ := hf
   simp only [eB, cK, iH] at h2 h3 hid hsp hb ⊢
   have w1 := ML (n := n' + 1) (p := qz (n' + 1)) (l := k) (b := b ++ [dI (Inst.mk d c s o ⟨k, kx⟩ nd f b' e w h ⟨p, px⟩ r q)]) (by simp only [List.length_append, List.length_cons, List.length_nil]; omega) (bH (by omega) q4.1) (fun a ha => mF ((h2 a ha).2 a (gV a)))
    fun a ha b hb => hp a (q4.2 a ha) (h2 a ha) b hb
   have w2 := ML (n := n' + 1) (p := qz (n' + 1)) (l := p) (b := b ++ [dI (Inst.mk d c s o ⟨k, kx⟩ nd f b' e w h ⟨p, px⟩ r q)] ++ (k.flatMap nodes).map dI) (by simp only [List.length_append, List.length_cons, List.length_nil, List.length_map]; omega) (bH (by omega) q5.1) (fun a ha => mF ((h3 a ha).2 a (gV a)))
    fun a ha b hb => hp a (q5.2 a ha) (h3 a ha) b hb
   have hk : Ep (n' + 2) (Inst.mk d c s o ⟨k, kx⟩ nd f b' e w h ⟨p, px⟩ r q) none (b ++ [dI (Inst.mk d c s o ⟨k, kx⟩ nd f b' e w h ⟨p, px⟩ r q)]) =
     some (none, b ++ [dI (Inst.mk d c s o ⟨k, kx⟩ nd f b' e w h ⟨p, px⟩ r q)] ++ (k.flatMap nodes ++ p.flatMap nodes).map dI) := by
    revert w1 w2 gh hsp
    generalize b ++ [dI (Inst.mk d c s o ⟨k, kx⟩ nd f b' e w h ⟨p, px⟩ r q)] = b2
    intro hsp gh w1 w2
    rw [Ep.eq_2]
    cases hh : xD (Inst.mk d c s o ⟨k, kx⟩ nd f b' e w h ⟨p, px⟩ r q) with
    | false =>
     have hp0 := hsp hh
     subst hp0
     rw [hh] at gh
     have v1 : wl (oV (n' + 1) (qz (n' + 1)) [⟨k, kx⟩]) (none, b2, 0) = some (.inl (none, b2 ++ (k.flatMap nodes).map dI, 1)) := by
      rw [kR (a' := (none, b2 ++ (k.flatMap nodes).map dI, 1)), iV]
      ·rfl
      ·unfold oV
       show (bif decide _ then ((wl _ _).bind _) else _) = _
       rw [w1]
       rfl
     obtain ⟨_, _, _, ⟨_, _, _, ⟨_, _⟩, ⟨_, _⟩, _, _, _⟩⟩ := c
     obtain ⟨_, _, _, ⟨_, _⟩, ⟨_, _⟩, _, _, _⟩ := e
     obtain ⟨_, _⟩ := s
     obtain ⟨_, _⟩ := o
     unfold Eo
     dsimp only
     simp only [Option.bind_some, gh, cond_false, v1]
     simp
    | true =>
     rw [hh] at gh
     have v1 : wl (oV (n' + 1) (qz (n' + 1)) [⟨k, kx⟩, ⟨p, px⟩]) (none, b2, 0) = some (.inl (none, b2 ++ (k.flatMap nodes).map dI ++ (p.flatMap nodes).map dI, 2)) := by
      rw [kR (a' := (none, b2 ++ (k.flatMap nodes).map dI, 1)), kR (a' := (none, b2 ++ (k.flatMap nodes).map dI ++ (p.flatMap nodes).map dI, 2)), iV]
      ·rfl
      ·unfold oV
       show (bif decide _ then ((wl _ _).bind _) else _) = _
       rw [w2]
       rfl
      ·unfold oV
       show (bif decide _ then ((wl _ _).bind _) else _) = _
       rw [w1]
       rfl
     have hr : room 24 (ln [(⟨k, kx⟩ : Sl Inst), ⟨p, px⟩]) = true := sK (by simp only [ln, List.length_cons, List.length_nil]; omega)
     obtain ⟨_, _, _, ⟨_, _, _, ⟨_, _⟩, ⟨_, _⟩, _, _, _⟩⟩ := c
     obtain ⟨_, _, _, ⟨_, _⟩, ⟨_, _⟩, _, _, _⟩ := e
     obtain ⟨_, _⟩ := s
     obtain ⟨_, _⟩ := o
     unfold Eo
     dsimp only
     simp only [Option.bind_some, gh, cond_true, hr, show (ln [(⟨p, px⟩ : Sl Inst)] == 0) = false from rfl, cond_false, List.cons_append, List.nil_append, v1]
     simp
   have hz : (d == 0) = false := by simp; omega
   have fin : ∀ fu1 fu2, Em (n' + 2) fu1 fu2 (Ep (n' + 2)) (Inst.mk d c s o ⟨k, kx⟩ nd f b' e w h ⟨p, px⟩ r q) b = some (b ++ (Inst.mk d c s o ⟨k, kx⟩ nd f b' e w h ⟨p, px⟩ r q :: (k.flatMap nodes ++ p.flatMap nodes)).map dI) := by
    intro fu1 fu2
    rw [List.map_cons]
    revert hk ga
    generalize dI (Inst.mk d c s o ⟨k, kx⟩ nd f b' e w h ⟨p, px⟩ r q) = y
    intro ga hk
    clear w1 w2
    obtain ⟨_, _, _, ⟨_, _, _, ⟨_, _⟩, ⟨_, _⟩, _, _, _⟩⟩ := c
    obtain ⟨_, _, _, ⟨_, _⟩, ⟨_, _⟩, _, _, _⟩ := e
    obtain ⟨_, _⟩ := s
    obtain ⟨_, _⟩ := o
    unfold Em P32
    dsimp only
    simp only [hz, cond_false, ga, hk, Option.bind_some, List.append_assoc, List.cons_append, List.nil_append]
   rw [AU.eq_2]
   exact fin _ _
theorem adq {N n : Nat} {x : Inst} (hf : gJ N x) (ho : zi x) (hn : 3 * N + 5 ≤ n) (hb : (nodes x).length ≤ 300000000000) : P10 n x = some ⟨(nodes x).map dI, none⟩ := by
 have h := aar N 256 n x [] hf ho.1 hn (by simpa using hb)
 rw [List.nil_append] at h
 obtain ⟨_, ⟨_, _, _, ⟨_, _, _, ⟨_, _⟩, ⟨_, _⟩, _, _, _⟩⟩, ⟨_, _⟩, ⟨_, _⟩, ⟨_, _⟩, _, _, _, ⟨_, _, _, ⟨_, _⟩, ⟨_, _⟩, _, _, _⟩, _, _, ⟨_, _⟩, _, _⟩ := x
 unfold P10
 dsimp only
 rw [h]
 rfl
end Go.Proofs.Ytedfkehkcaaplaa
