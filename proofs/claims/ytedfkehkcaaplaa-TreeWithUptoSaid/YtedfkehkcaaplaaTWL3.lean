/- Values on plain data: several laws, one behind the other. -/
import Derived.Test.YtedfkehkcaaplaaTWL2
namespace Go.Proofs.Ytedfkehkcaaplaa
open Go Go.X
set_option linter.unusedVariables false
set_option linter.unusedSimpArgs false
set_option maxRecDepth 100000
noncomputable def Mg (put : Inst → Bool → Option (Inst × Bool)) (l : List Inst) : (List Inst × Bool × Int) → Option ((List Inst × Bool × Int) ⊕ (List Inst × Bool × Int))
 | (o, g, i) => bif decide (i < ln l) then (idx l i).bind fun x => (bif !g && !(iW x == 0) then (put x g).bind fun q => (idx o i).bind fun _ => some (o.set i.toNat q.1, q.2) else some (o, g)).bind fun q => some (.inl (q.1, q.2, gD (i + 1))) else some (.inr (o, g, i))
theorem aoI {y : Inst} {K : Nat} {put : Inst → Bool → Option (Inst × Bool)} {l : List Inst} {g : Bool} (hl : l.length ≤ 8796093022208) (nd : (l.flatMap nums).Nodup) (hg : g = true → iW y ∉ l.flatMap nums)
  (hid : ∀ a ∈ l, 0 < iW a) (hfit : ∀ a ∈ l, jH K a)
  (hp : ∀ a ∈ l, ∃ r b, put a false = some (r, b) ∧ fF r = fF (sub y a) ∧ jH K r ∧ (b = true ↔ iW y ∈ nums a)) :
  ∃ o b, wl (Mg put l) (l, g, 0) = some (o, b, (l.length : Int)) ∧ o.length = l.length ∧ o.map fF = (l.map (sub y)).map fF ∧ (∀ a ∈ o, jH K a) ∧ (b = true ↔ g = true ∨ iW y ∈ l.flatMap nums) := by
 obtain ⟨⟨o, b⟩, h1, h2, h3, h4⟩ := ade (f := Mg put l) l (fun (s : List Inst × Bool) k => (s.1, s.2, (k : Int)))
  (fun k s => s.1.length = l.length ∧ (∀ (i : Nat) t a, s.1[i]? = some t → l[i]? = some a → (i < k → fF t = fF (sub y a) ∧ jH K t) ∧ (k ≤ i → t = a)) ∧ (s.2 = true ↔ g = true ∨ iW y ∈ (l.take k).flatMap nums)) (fun s => (s.1, s.2, (l.length : Int)))
  (fun k hk s hs => by
   obtain ⟨o, b⟩ := s
   obtain ⟨g1, g2, g3⟩ := hs
   dsimp only at g1 g2 g3
   have hks : k < o.length := by omega
   have hlk : l[k]? = some l[k] := List.getElem?_eq_getElem hk
   have htk : (l.take (k + 1)).flatMap nums = (l.take k).flatMap nums ++ nums l[k] := by rw [take_snoc' l k hk, List.flatMap_append]; simp
   have hz : (iW l[k] == 0) = false := by have := hid l[k] (List.getElem_mem hk); simp; omega
   have hin : ∀ z, z ∈ (l.take k).flatMap nums → z ∉ nums l[k] := fun z h1 h2 => by
    have e : l = l.take k ++ l[k] :: l.drop (k + 1) := by rw [← List.drop_eq_getElem_cons hk, List.take_append_drop]
    rw [e, List.flatMap_append, List.flatMap_cons] at nd
    exact (List.nodup_append.1 nd).2.2 z h1 z (List.mem_append_left _ h2) rfl
   cases b with
   | true =>
    refine ⟨(o, true), ?_, g1, fun i t a h1 h2 => ⟨fun h3 => ?_, fun h3 => (g2 i t a h1 h2).2 (by omega)⟩, ?_⟩
    ·simp only [Mg, uQ hk, cond_true, qB l k hk, Option.bind_some, Bool.not_true, Bool.false_and, cond_false, tu (show k < 9223372036854775807 by omega)]
    ·by_cases hik : i < k
     ·exact (g2 i t a h1 h2).1 hik
     ·have : i = k := by omega
      subst this
      have he := (g2 i t a h1 h2).2 (Nat.le_refl _)
      subst he
      rw [hlk] at h2
      cases h2
      refine ⟨(afg _ fun q => ?_).symm, hfit _ (List.getElem_mem hk)⟩
      rcases g3.1 rfl with h5 | h5
      ·exact hg h5 (List.mem_flatMap.2 ⟨_, List.getElem_mem hk, q⟩)
      ·exact hin _ h5 q
    ·rw [htk, List.mem_append]
     constructor
     ·intro _
      rcases g3.1 rfl with h5 | h5
      ·exact .inl h5
      ·exact .inr (.inl h5)
     ·intro _; rfl
   | false =>
    obtain ⟨r, b, h1, h2, h3, h4⟩ := hp l[k] (List.getElem_mem hk)
    refine ⟨(o.set k r, b), ?_, by simp [g1], fun i t a h5 h6 => ?_, ?_⟩
    ·simp only [Mg, uQ hk, cond_true, qB l k hk, Option.bind_some, Bool.not_false, hz, Bool.true_and, h1, qB o k hks, Int.toNat_natCast, tu (show k < 9223372036854775807 by omega)]
    ·by_cases hik : i = k
     ·subst hik
      rw [List.getElem?_set_self hks] at h5
      rw [hlk] at h6
      cases h5; cases h6
      exact ⟨fun _ => ⟨h2, h3⟩, fun h => by omega⟩
     ·rw [List.getElem?_set_ne (fun e => hik e.symm)] at h5
      obtain ⟨j1, j2⟩ := g2 i t a h5 h6
      exact ⟨fun h => j1 (by omega), fun h => j2 (by omega)⟩
    ·have hno : ¬ (g = true ∨ iW y ∈ (l.take k).flatMap nums) := fun h => by have := g3.2 h; cases this
     rw [htk, List.mem_append, h4]
     constructor
     ·intro h; exact .inr (.inr h)
     ·rintro (h | h | h)
      ·exact absurd (.inl h) hno
      ·exact absurd (.inr h) hno
      ·exact h)
  (fun s hs => by simp only [Mg, tC, cond_false]) (l, g) ⟨rfl, fun i t a h1 h2 => ⟨fun h => by omega, fun _ => by rw [h1] at h2; cases h2; rfl⟩, by simp⟩
 dsimp only at h1 h2 h3 h4
 refine ⟨o, b, h1, h2, ?_, fun a ha => ?_, by rw [List.take_length] at h4; exact h4⟩
 ·rw [List.map_map]
  refine List.ext_getElem (by simp [h2]) fun i hi hj => ?_
  have hi' : i < o.length := by simpa using hi
  have hj' : i < l.length := by simpa using hj
  rw [List.getElem_map, List.getElem_map]
  exact ((h3 i _ _ (List.getElem?_eq_getElem hi') (List.getElem?_eq_getElem hj')).1 hj').1
 ·obtain ⟨i, hi⟩ := List.mem_iff_getElem?.1 ha
  have hl' : i < l.length := by rw [← h2]; exact (List.getElem?_eq_some_iff.1 hi).1
  exact ((h3 i a _ hi (List.getElem?_eq_getElem hl')).1 hl').2
theorem aoJ (fu : Nat) (p : Inst → Inst → Inst → Bool → Option (Inst × Bool)) (l : List Inst) (da : Int) (dba : ByteArray) (dbb : Int) (dbc : ByteArray) (avw : Int) (avx : Int) (avy : ByteArray) (alJ : List Value) (alK : Option (List Value)) (alL : List Field) (alM : Option (List Field)) (avz : Int) (avA : ByteArray) (avB : Bool) (dcl : List Cell) (dcx : Option (List Cell)) (ddl : List Child) (ddx : Option (List Child)) (del : List Inst) (dex : Option (List Inst)) (df : Int) (dg : Bool) (dh : Bool) (dia : Int) (dib : Int) (dic : ByteArray) (avC : List Value) (avD : Option (List Value)) (avE : List Field) (avF : Option (List Field)) (dif : Int) (dig : ByteArray) (dih : Bool) (dj : ByteArray) (dk : Bool) (dml : List Inst) (dmx : Option (List Inst)) (dn : Bool) (do_ : Bool) :
  J2 fu p l da dba dbb dbc avw avx avy alJ alK alL alM avz avA avB dcl dcx ddl ddx del dex df dg dh dia dib dic avC avD avE avF dif dig dih dj dk dml dmx dn do_ =
  Mg (fun x g => p x (Inst.mk da (Child.mk dba dbb dbc (Value.mk avw avx avy (Sl.mk alJ alK) (Sl.mk alL alM) avz avA avB)) (Sl.mk dcl dcx) (Sl.mk ddl ddx) (Sl.mk del dex) df dg dh (Value.mk dia dib dic (Sl.mk avC avD) (Sl.mk avE avF) dif dig dih) dj dk (Sl.mk dml dmx) dn do_) (Inst.mk da (Child.mk dba dbb dbc (Value.mk avw avx avy (Sl.mk alJ alK) (Sl.mk alL alM) avz avA avB)) (Sl.mk dcl dcx) (Sl.mk ddl ddx) (Sl.mk del dex) df dg dh (Value.mk dia dib dic (Sl.mk avC avD) (Sl.mk avE avF) dif dig dih) dj dk (Sl.mk dml dmx) dn do_) g) l := by
 funext q
 obtain ⟨o, g, i⟩ := q
 unfold J2 Mg
 dsimp only
 cases decide (i < ln l)
 ·rfl
 ·cases idx l i with
  | none => rfl
  | some x =>
   obtain ⟨_, ⟨_, _, _, ⟨_, _, _, ⟨_, _⟩, ⟨_, _⟩, _, _, _⟩⟩, ⟨_, _⟩, ⟨_, _⟩, ⟨_, _⟩, _, _, _, ⟨_, _, _, ⟨_, _⟩, ⟨_, _⟩, _, _, _⟩, _, _, ⟨_, _⟩, _, _⟩ := x
   simp only [cond_true, Option.bind_some, vO, iW]
   cases (!g && !_) with
   | false => rfl
   | true =>
    simp only [cond_true]
    cases p _ _ _ g with
    | none => rfl
    | some t =>
     obtain ⟨⟨_, ⟨_, _, _, ⟨_, _, _, ⟨_, _⟩, ⟨_, _⟩, _, _, _⟩⟩, ⟨_, _⟩, ⟨_, _⟩, ⟨_, _⟩, _, _, _, ⟨_, _, _, ⟨_, _⟩, ⟨_, _⟩, _, _, _⟩, _, _, ⟨_, _⟩, _, _⟩, w⟩ := t
     simp only [Option.bind_some]
     cases idx o i with
     | none => rfl
     | some u => obtain ⟨_, ⟨_, _, _, ⟨_, _, _, ⟨_, _⟩, ⟨_, _⟩, _, _, _⟩⟩, ⟨_, _⟩, ⟨_, _⟩, ⟨_, _⟩, _, _, _, ⟨_, _, _, ⟨_, _⟩, ⟨_, _⟩, _, _, _⟩, _, _, ⟨_, _⟩, _, _⟩ := u; rfl
theorem aoK {n : Nat} {y : Inst} {l : List Inst} {x : Option (List Inst)} {g : Bool} {r : List Inst × Bool × Int} (h0 : l.length * 416 ≤ reachBytes)
  (h : wl (Mg (fun x g => EG n x y y g) l) (l, g, 0) = some r) : TF (n + 1) ⟨l, x⟩ y g = some (⟨r.1, none⟩, r.2.1) := by
 obtain ⟨o, b, i⟩ := r
 rw [TF.eq_2]
 unfold WL
 obtain ⟨_, ⟨_, _, _, ⟨_, _, _, ⟨_, _⟩, ⟨_, _⟩, _, _, _⟩⟩, ⟨_, _⟩, ⟨_, _⟩, ⟨_, _⟩, _, _, _, ⟨_, _, _, ⟨_, _⟩, ⟨_, _⟩, _, _, _⟩, _, _, ⟨_, _⟩, _, _⟩ := y
 dsimp only
 rw [aoJ, alA, rO (E9 := 416) (k := 416) rfl h0]
 dsimp only [Option.bind_some]
 rw [h]
 rfl
theorem avG {y : Inst} {M : Nat} (hy : jH M y) : ∀ (N D n : Nat) (x : Inst), jH N x → zQ D x → (nums x).Nodup → 2 * N + 2 ≤ n →
  ∃ r b, EG n x y y false = some (r, b) ∧ fF r = fF (sub y x) ∧ jH (N + M) r ∧ (b = true ↔ iW y ∈ nums x) := by
 intro N
 induction N with
 | zero => intro D n v h; exact absurd h (by obtain ⟨_, ⟨_, _, _, ⟨_, _, _, ⟨_, _⟩, ⟨_, _⟩, _, _, _⟩⟩, ⟨_, _⟩, ⟨_, _⟩, ⟨_, _⟩, _, _, _, ⟨_, _, _, ⟨_, _⟩, ⟨_, _⟩, _, _, _⟩, _, _, ⟨_, _⟩, _, _⟩ := v; simp [jH])
 | succ N ih =>
  intro D n x hf ho nd hn
  cases D with
  | zero => exact ho.1.elim
  | succ D =>
   obtain ⟨h1, h2, h3⟩ := (Fu D x).1 ho
   obtain ⟨n', rfl⟩ : ∃ n', n = n' + 2 := ⟨n - 2, by omega⟩
   by_cases e : iW x = iW y
   ·refine ⟨y, true, ?_, by rw [xV e], Fq _ _ _ (by omega) hy, ⟨fun _ => ?_, fun _ => rfl⟩⟩
    ·rw [EG.eq_2]
     unfold K8
     obtain ⟨_, ⟨_, _, _, ⟨_, _, _, ⟨_, _⟩, ⟨_, _⟩, _, _, _⟩⟩, ⟨_, _⟩, ⟨_, _⟩, ⟨_, _⟩, _, _, _, ⟨_, _, _, ⟨_, _⟩, ⟨_, _⟩, _, _, _⟩, _, _, ⟨_, _⟩, _, _⟩ := x
     obtain ⟨_, ⟨_, _, _, ⟨_, _, _, ⟨_, _⟩, ⟨_, _⟩, _, _, _⟩⟩, ⟨_, _⟩, ⟨_, _⟩, ⟨_, _⟩, _, _, _, ⟨_, _, _, ⟨_, _⟩, ⟨_, _⟩, _, _, _⟩, _, _, ⟨_, _⟩, _, _⟩ := y
     simp only [iW] at e
     subst e
     simp only [beq_self_eq_true, cond_true]
    ·rw [kE, e]; simp
   ·have hsp := Mf h1
    have nd0 := nd
    rw [kE] at nd
    obtain ⟨nk, ns, nx⟩ := List.nodup_append.1 (List.nodup_cons.1 nd).2
    have row : ∀ (l : List Inst) (z : Option (List Inst)) (g : Bool), l.length * 416 ≤ reachBytes → (∀ a ∈ l, jH N a) → (∀ a ∈ l, zQ D a) → (l.flatMap nums).Nodup → (g = true → iW y ∉ l.flatMap nums) →
      ∃ o b, TF (n' + 1) ⟨l, z⟩ y g = some (⟨o, none⟩, b) ∧ o.length = l.length ∧ o.map fF = (l.map (sub y)).map fF ∧ (∀ a ∈ o, jH (N + M) a) ∧ (b = true ↔ g = true ∨ iW y ∈ l.flatMap nums) := by
     intro l z g q1 q2 q3 q4 q5
     obtain ⟨o, b, w1, w2, w3, w4, w5⟩ := aoI (y := y) (K := N + M) (put := fun x g => EG n' x y y g) (dX (by omega) q1) q4 q5 (fun a ha => zR ((q3 a ha).2 a (mP a))) (fun a ha => Fq _ _ _ (by omega) (q2 a ha))
      (fun a ha => ih D n' a (q2 a ha) (q3 a ha) (by
       obtain ⟨l1, l2, rfl⟩ := List.append_of_mem ha
       rw [List.flatMap_append, List.flatMap_cons] at q4
       exact (List.nodup_append.1 (List.nodup_append.1 q4).2.1).1) (by omega))
     exact ⟨o, b, aoK q1 w1, w2, w3, w4, w5⟩
    have hh := aal (n' + 1)
    have hsub := rT e
    have hmem := @RS x (iW y)
    obtain ⟨d, c, s, o, ⟨k, kx⟩, nd', f, b', e', w, h, ⟨p, px⟩, r, q⟩ := x
    obtain ⟨f1, f2, f3, f4, q4, q5⟩ := hf
    simp only [iC, fB] at h2 h3 nk ns nx hsp hsub hmem
    simp only [iW] at e
    obtain ⟨o1, b1, g1, g2, g3, g4, g5⟩ := row k kx false q4.1 q4.2 h2 nk (fun h => by cases h)
    have g5 : b1 = true ↔ iW y ∈ k.flatMap nums := by rw [g5]; simp
    obtain ⟨o2, b2, k1, k2, k3, k4, k5⟩ := row p px b1 q5.1 q5.2 h3 ns (fun h q => nx _ (g5.1 h) _ q rfl)
    have ez : (d == iW y) = false := by simpa [iW] using e
    have fin : ∃ o3 ox, fF (Inst.mk d c s o ⟨o1, none⟩ nd' f b' e' w h ⟨o3, ox⟩ r q) = fF (sub y (Inst.mk d c s o ⟨k, kx⟩ nd' f b' e' w h ⟨p, px⟩ r q)) ∧ (∀ a ∈ o3, jH (N + M) a) ∧ o3.length = p.length ∧
      EG (n' + 2) (Inst.mk d c s o ⟨k, kx⟩ nd' f b' e' w h ⟨p, px⟩ r q) y y false = some (Inst.mk d c s o ⟨o1, none⟩ nd' f b' e' w h ⟨o3, ox⟩ r q, b2) := by
     have hcp : ∀ o3 ox, o3.map fF = (p.map (sub y)).map fF → fF (Inst.mk d c s o ⟨o1, none⟩ nd' f b' e' w h ⟨o3, ox⟩ r q) = fF (sub y (Inst.mk d c s o ⟨k, kx⟩ nd' f b' e' w h ⟨p, px⟩ r q)) := fun o3 ox h => by
      rw [hsub]
      simp only [wK, fF, Lp, mZ, g3, h]
     rw [EG.eq_2]
     cases hq : ER (Inst.mk d c s o ⟨k, kx⟩ nd' f b' e' w h ⟨p, px⟩ r q) with
     | true =>
      refine ⟨o2, none, hcp _ _ k3, k4, k2, ?_⟩
      have hh := hh (Inst.mk d c s o ⟨o1, none⟩ nd' f b' e' w h ⟨p, px⟩ r q)
      rw [show ER (Inst.mk d c s o ⟨o1, none⟩ nd' f b' e' w h ⟨p, px⟩ r q) = true from hq] at hh
      clear hcp hsub hmem hq f1 f2 f3 f4 row ih hy
      unfold K8
      obtain ⟨_, _, _, ⟨_, _, _, ⟨_, _⟩, ⟨_, _⟩, _, _, _⟩⟩ := c
      obtain ⟨_, _, _, ⟨_, _⟩, ⟨_, _⟩, _, _, _⟩ := e'
      obtain ⟨_, _⟩ := s
      obtain ⟨_, _⟩ := o
      obtain ⟨_, ⟨_, _, _, ⟨_, _, _, ⟨_, _⟩, ⟨_, _⟩, _, _, _⟩⟩, ⟨_, _⟩, ⟨_, _⟩, ⟨_, _⟩, _, _, _, ⟨_, _, _, ⟨_, _⟩, ⟨_, _⟩, _, _, _⟩, _, _, ⟨_, _⟩, _, _⟩ := y
      simp only [iW] at ez
      dsimp only
      simp only [ez, cond_false, g1, hh, k1, cond_true, Option.bind_some]
     | false =>
      have hp0 := hsp hq
      subst hp0
      refine ⟨[], px, hcp _ _ rfl, by simp, rfl, ?_⟩
      have hb : b2 = b1 := Bool.eq_iff_iff.2 (by rw [k5]; simp only [List.flatMap_nil, List.not_mem_nil, or_false])
      subst hb
      have hh := hh (Inst.mk d c s o ⟨o1, none⟩ nd' f b' e' w h ⟨[], px⟩ r q)
      rw [show ER (Inst.mk d c s o ⟨o1, none⟩ nd' f b' e' w h ⟨[], px⟩ r q) = false from hq] at hh
      clear hcp hsub hmem hq f1 f2 f3 f4 row ih hy
      unfold K8
      obtain ⟨_, _, _, ⟨_, _, _, ⟨_, _⟩, ⟨_, _⟩, _, _, _⟩⟩ := c
      obtain ⟨_, _, _, ⟨_, _⟩, ⟨_, _⟩, _, _, _⟩ := e'
      obtain ⟨_, _⟩ := s
      obtain ⟨_, _⟩ := o
      obtain ⟨_, ⟨_, _, _, ⟨_, _, _, ⟨_, _⟩, ⟨_, _⟩, _, _, _⟩⟩, ⟨_, _⟩, ⟨_, _⟩, ⟨_, _⟩, _, _, _, ⟨_, _, _, ⟨_, _⟩, ⟨_, _⟩, _, _, _⟩, _, _, ⟨_, _⟩, _, _⟩ := y
      simp only [iW] at ez
      dsimp only
      simp only [ez, cond_false, g1, hh, cond_false, Option.bind_some]
    obtain ⟨o3, ox, c1, c2, c4, c3⟩ := fin
    refine ⟨_, _, c3, c1, ?_, ?_⟩
    ·rw [show N + 1 + M = (N + M) + 1 by omega]
     refine ⟨oZ _ _ _ (by omega) f1, ⟨f2.1, fun u hu => Uc (by omega) (f2.2 u hu)⟩, ⟨f3.1, fun u hu => oZ _ _ _ (by omega) (f3.2 u hu)⟩, oZ _ _ _ (by omega) f4, ⟨by rw [g2]; exact q4.1, g4⟩, ⟨by rw [c4]; exact q5.1, c2⟩⟩
    ·rw [k5, g5, hmem]
     simp only [iW, List.mem_flatMap]
     constructor
     ·intro h; exact .inr h
     ·rintro (h | h)
      ·exact absurd h.symm e
      ·exact h
theorem Xl {N M n : Nat} {x y : Inst} (hx : jH N x) (hy : jH M y) (ho : FT x) (hi : iW y ≠ 0) (hn : 3 * (N + M) + 2 ≤ n) : P11 n x y = some (fF (sub y x)) ∧ jH (N + M) (fF (sub y x)) := by
 have hM : 1 ≤ M := by
  cases M with
  | zero => exact absurd hy (by obtain ⟨_, ⟨_, _, _, ⟨_, _, _, ⟨_, _⟩, ⟨_, _⟩, _, _, _⟩⟩, ⟨_, _⟩, ⟨_, _⟩, ⟨_, _⟩, _, _, _, ⟨_, _, _, ⟨_, _⟩, ⟨_, _⟩, _, _, _⟩, _, _, ⟨_, _⟩, _, _⟩ := y; simp [jH])
  | succ M => omega
 obtain ⟨r, b, h1, h2, h3, h4⟩ := avG hy N 256 n x hx ho.1 ho.2 (by omega)
 have h5 := ayK _ n r h3 hn
 have h6 := afc _ r h3
 rw [h2] at h5 h6
 have hid := zR (ho.1.2 x (mP x))
 refine ⟨?_, h6⟩
 clear h6
 revert h5
 generalize fF (sub y x) = t
 intro h5
 clear h2 h3 h4 hx hy ho
 obtain ⟨_, ⟨_, _, _, ⟨_, _, _, ⟨_, _⟩, ⟨_, _⟩, _, _, _⟩⟩, ⟨_, _⟩, ⟨_, _⟩, ⟨_, _⟩, _, _, _, ⟨_, _, _, ⟨_, _⟩, ⟨_, _⟩, _, _, _⟩, _, _, ⟨_, _⟩, _, _⟩ := x
 obtain ⟨_, ⟨_, _, _, ⟨_, _, _, ⟨_, _⟩, ⟨_, _⟩, _, _, _⟩⟩, ⟨_, _⟩, ⟨_, _⟩, ⟨_, _⟩, _, _, _, ⟨_, _, _, ⟨_, _⟩, ⟨_, _⟩, _, _, _⟩, _, _, ⟨_, _⟩, _, _⟩ := y
 obtain ⟨_, ⟨_, _, _, ⟨_, _, _, ⟨_, _⟩, ⟨_, _⟩, _, _, _⟩⟩, ⟨_, _⟩, ⟨_, _⟩, ⟨_, _⟩, _, _, _, ⟨_, _, _, ⟨_, _⟩, ⟨_, _⟩, _, _, _⟩, _, _, ⟨_, _⟩, _, _⟩ := r
 obtain ⟨_, ⟨_, _, _, ⟨_, _, _, ⟨_, _⟩, ⟨_, _⟩, _, _, _⟩⟩, ⟨_, _⟩, ⟨_, _⟩, ⟨_, _⟩, _, _, _, ⟨_, _, _, ⟨_, _⟩, ⟨_, _⟩, _, _, _⟩, _, _, ⟨_, _⟩, _, _⟩ := t
 simp only [iW] at hi hid
 unfold P11
 dsimp only
 rw [h1]
 have e1 : ∀ d : Int, 0 < d → (d == 0) = false := fun d h => by simp; omega
 have e2 : ∀ d : Int, d ≠ 0 → (d == 0) = false := fun d h => by simpa using h
 simp only [e1 _ hid, e2 _ hi, Bool.not_false, cond_true, cond_false, Option.bind_some, h5]
def lD {A : Type} (p : A → Option Int) (c : Int → Bool) (l : List A) : (Int × Int) → Option ((Int × Int) ⊕ (Int × Int))
 | (s, i) => (bif decide (i < ln l) then some (c s) else some false).bind fun q => bif q then (idx l i).bind fun x => (p x).bind fun r => some (.inl (gD (s + r), gD (i + 1))) else some (.inr (s, i))
theorem nC {A : Type} {p : A → Option Int} {c : Int → Bool} {l : List A} (hl : l.length ≤ 8796093022208) (h : ∀ x ∈ l, ∃ r, p x = some r) (a : Int) : ∃ q, wl (lD p c l) (a, 0) = some q := by
 refine aml l.length (by omega) (fun s k hk => ?_) a
 unfold lD
 dsimp only
 by_cases hlt : k < l.length
 ·rw [uQ hlt]
  simp only [cond_true, Option.bind_some]
  cases c s with
  | false => exact .inl ⟨_, rfl⟩
  | true =>
   right
   refine ⟨hlt, ?_⟩
   obtain ⟨r, hr⟩ := h l[k] (List.getElem_mem hlt)
   simp only [cond_true, qB l k hlt, Option.bind_some, hr]
   exact ⟨_, rfl⟩
 ·have : k = l.length := by omega
  subst this
  rw [tC]
  exact .inl ⟨_, rfl⟩
abbrev og : Int → Bool := fun s => decide (s ≤ 1048576)
theorem avH (fu : Nat) (p : Value → Option Int) (l : List Value) : Vb fu p l = lD p (og) l := by
 funext q
 obtain ⟨s, i⟩ := q
 unfold Vb lD og
 dsimp only
 cases decide (i < ln l) with
 | false => rfl
 | true =>
  simp only [cond_true, Option.bind_some]
  cases decide (s ≤ 1048576) with
  | false => rfl
  | true =>
   cases idx l i with
   | none => rfl
   | some x => obtain ⟨_, _, _, ⟨_, _⟩, ⟨_, _⟩, _, _, _⟩ := x; rfl
theorem avI (fu : Nat) (p : Field → Option Int) (l : List Field) : Vd fu p l = lD p (og) l := by
 funext q
 obtain ⟨s, i⟩ := q
 unfold Vd lD og
 dsimp only
 cases decide (i < ln l) with
 | false => rfl
 | true =>
  simp only [cond_true, Option.bind_some]
  cases decide (s ≤ 1048576) with
  | false => rfl
  | true =>
   cases idx l i with
   | none => rfl
   | some x => obtain ⟨_, ⟨_, _, _, ⟨_, _⟩, ⟨_, _⟩, _, _, _⟩⟩ := x; rfl
theorem avJ (fu : Nat) (l : List ByteArray) : Ve fu l = lD (fun x => some (x.size : Int)) og l := by
 funext q
 obtain ⟨s, i⟩ := q
 rfl
theorem avK (fu : Nat) (p : Expr → Option Int) (l : List Expr) : MO fu p l = lD p (og) l := by
 funext q
 obtain ⟨s, i⟩ := q
 unfold MO lD og
 dsimp only
 cases decide (i < ln l) with
 | false => rfl
 | true =>
  simp only [cond_true, Option.bind_some]
  cases decide (s ≤ 1048576) with
  | false => rfl
  | true =>
   cases idx l i with
   | none => rfl
   | some x => obtain ⟨_, _, _, ⟨_, _⟩, ⟨_, _⟩, ⟨_, _⟩, _, ⟨_, _⟩, ⟨_, _⟩, _⟩ := x; rfl
theorem avL (fu : Nat) (p : Act → Option Int) (l : List Act) : Vg fu p l = lD p (og) l := by
 funext q
 obtain ⟨s, i⟩ := q
 unfold Vg lD og
 dsimp only
 cases decide (i < ln l) with
 | false => rfl
 | true =>
  simp only [cond_true, Option.bind_some]
  cases decide (s ≤ 1048576) with
  | false => rfl
  | true =>
   cases idx l i with
   | none => rfl
   | some x => obtain ⟨_, _, ⟨_, _, _, ⟨_, _⟩, ⟨_, _⟩, ⟨_, _⟩, _, ⟨_, _⟩, ⟨_, _⟩, _⟩⟩ := x; rfl
theorem avM (fu : Nat) (l : List Cell) : Vh fu l = lD (P71 fu) (og) l := by
 funext q
 obtain ⟨s, i⟩ := q
 unfold Vh lD og
 dsimp only
 cases decide (i < ln l) with
 | false => rfl
 | true =>
  simp only [cond_true, Option.bind_some]
  cases decide (s ≤ 1048576) with
  | false => rfl
  | true =>
   cases idx l i with
   | none => rfl
   | some x => obtain ⟨_, _, ⟨_, _, _, ⟨_, _⟩, ⟨_, _⟩, _, _, _⟩, ⟨_, _, _, ⟨_, _⟩, ⟨_, _⟩, _, _, _⟩, ⟨_, _⟩, ⟨_, _⟩, ⟨_, _⟩, ⟨_, _⟩, _, _, ⟨_, _⟩, ⟨_, _⟩⟩ := x; rfl
theorem aoL (fu : Nat) (l : List Child) : Vi fu l = lD (P45 fu) (og) l := by
 funext q
 obtain ⟨s, i⟩ := q
 unfold Vi lD og
 dsimp only
 cases decide (i < ln l) with
 | false => rfl
 | true =>
  simp only [cond_true, Option.bind_some]
  cases decide (s ≤ 1048576) with
  | false => rfl
  | true =>
   cases idx l i with
   | none => rfl
   | some x => obtain ⟨_, _, _, ⟨_, _, _, ⟨_, _⟩, ⟨_, _⟩, _, _, _⟩⟩ := x; rfl
theorem avN (fu : Nat) (p : Inst → Option Int) (l : List Inst) : Vj fu p l = lD p (og) l := by
 funext q
 obtain ⟨s, i⟩ := q
 unfold Vj lD og
 dsimp only
 cases decide (i < ln l) with
 | false => rfl
 | true =>
  simp only [cond_true, Option.bind_some]
  cases decide (s ≤ 1048576) with
  | false => rfl
  | true =>
   cases idx l i with
   | none => rfl
   | some x => obtain ⟨_, ⟨_, _, _, ⟨_, _, _, ⟨_, _⟩, ⟨_, _⟩, _, _, _⟩⟩, ⟨_, _⟩, ⟨_, _⟩, ⟨_, _⟩, _, _, _, ⟨_, _, _, ⟨_, _⟩, ⟨_, _⟩, _, _, _⟩, _, _, ⟨_, _⟩, _, _⟩ := x; rfl
theorem avO (fu : Nat) (p : Inst → Int → Option Int) (l : List Inst) (a : Int) : PO fu p l a = lD (fun x => p x (gD (a + 1))) (fun s => decide (s < 1048576)) l := by
 funext q
 obtain ⟨s, i⟩ := q
 unfold PO lD
 dsimp only
 cases decide (i < ln l) with
 | false => rfl
 | true =>
  simp only [cond_true, Option.bind_some]
  cases decide (s < 1048576) with
  | false => rfl
  | true =>
   cases idx l i with
   | none => rfl
   | some x => obtain ⟨_, ⟨_, _, _, ⟨_, _, _, ⟨_, _⟩, ⟨_, _⟩, _, _, _⟩⟩, ⟨_, _⟩, ⟨_, _⟩, ⟨_, _⟩, _, _, _, ⟨_, _, _, ⟨_, _⟩, ⟨_, _⟩, _, _, _⟩, _, _, ⟨_, _⟩, _, _⟩ := x; rfl
theorem avP (fu : Nat) (p : Inst → Int → Option Int) (l : List Inst) (a : Int) : PS fu p l a = lD (fun x => p x (gD (a + 1))) (fun s => decide (s < 1048576)) l := by
 funext q
 obtain ⟨s, i⟩ := q
 unfold PS lD
 dsimp only
 cases decide (i < ln l) with
 | false => rfl
 | true =>
  simp only [cond_true, Option.bind_some]
  cases decide (s < 1048576) with
  | false => rfl
  | true =>
   cases idx l i with
   | none => rfl
   | some x => obtain ⟨_, ⟨_, _, _, ⟨_, _, _, ⟨_, _⟩, ⟨_, _⟩, _, _, _⟩⟩, ⟨_, _⟩, ⟨_, _⟩, ⟨_, _⟩, _, _, _, ⟨_, _, _, ⟨_, _⟩, ⟨_, _⟩, _, _, _⟩, _, _, ⟨_, _⟩, _, _⟩ := x; rfl
theorem arq {n : Nat} {l : List Value} {x : Option (List Value)} (h1 : l.length * 112 ≤ reachBytes) (h : ∀ v ∈ l, ∃ r, P49 n v = some r) : ∃ r, P72 (n + 1) ⟨l, x⟩ = some r := by
 obtain ⟨q, hq⟩ := nC (c := og) (dX (by omega) h1) h (ln l)
 rw [P72.eq_2]
 unfold amB
 dsimp only
 rw [avH, hq]
 exact ⟨_, rfl⟩
theorem ars {n : Nat} {l : List Field} {x : Option (List Field)} (h1 : l.length * 128 ≤ reachBytes) (h : ∀ v ∈ l, ∃ r, P93 n v = some r) : ∃ r, P73 (n + 1) ⟨l, x⟩ = some r := by
 obtain ⟨q, hq⟩ := nC (c := og) (dX (by omega) h1) h (ln l)
 rw [P73.eq_2]
 unfold amC
 dsimp only
 rw [avI, hq]
 exact ⟨_, rfl⟩
theorem alN {n : Nat} {l : List Expr} {x : Option (List Expr)} (h1 : l.length * 176 ≤ reachBytes) (h : ∀ v ∈ l, ∃ r, Sg n v = some r) : ∃ r, abj (n + 1) ⟨l, x⟩ = some r := by
 obtain ⟨q, hq⟩ := nC (c := og) (dX (by omega) h1) h (ln l)
 rw [abj.eq_2]
 unfold adB
 dsimp only
 rw [avK, hq]
 exact ⟨_, rfl⟩
theorem aru {n : Nat} {l : List Act} {x : Option (List Act)} (h1 : l.length * 200 ≤ reachBytes) (h : ∀ v ∈ l, ∃ r, YM n v = some r) : ∃ r, P92 (n + 1) ⟨l, x⟩ = some r := by
 obtain ⟨q, hq⟩ := nC (c := og) (dX (by omega) h1) h (ln l)
 rw [P92.eq_2]
 unfold amD
 dsimp only
 rw [avL, hq]
 exact ⟨_, rfl⟩
theorem arv {n : Nat} {l : List Inst} {x : Option (List Inst)} (h1 : l.length * 416 ≤ reachBytes) (h : ∀ v ∈ l, ∃ r, P16 n v = some r) : ∃ r, P48 (n + 1) ⟨l, x⟩ = some r := by
 obtain ⟨q, hq⟩ := nC (c := og) (dX (by omega) h1) h (ln l)
 rw [P48.eq_2]
 unfold amF
 dsimp only
 rw [avN, hq]
 exact ⟨_, rfl⟩
theorem acQ : ∀ (N n : Nat) (v : Value), Fit N v → 3 * N ≤ n → ∃ r, P49 n v = some r := by
 intro N
 induction N with
 | zero => intro n v h; exact absurd h (by obtain ⟨_, _, _, ⟨_, _⟩, ⟨_, _⟩, _, _, _⟩ := v; simp [Fit])
 | succ N ih =>
  intro n v h hn
  obtain ⟨n', rfl⟩ : ∃ n', n = n' + 3 := ⟨n - 3, by omega⟩
  obtain ⟨k, nn, s, ⟨l, x⟩, ⟨f, y⟩, e, c, b⟩ := v
  obtain ⟨⟨p1, p2⟩, p3, p4⟩ := h
  obtain ⟨r1, g1⟩ := arq (n := n' + 1) (x := x) p1 fun v hv => ih (n' + 1) v (p2 v hv) (by omega)
  obtain ⟨r2, g2⟩ := ars (n := n' + 1) (x := y) p3 fun q hq => by
   have := p4 q hq
   obtain ⟨m, v⟩ := q
   obtain ⟨r, hr⟩ := ih n' v this (by omega)
   obtain ⟨_, _, _, ⟨_, _⟩, ⟨_, _⟩, _, _, _⟩ := v
   rw [P93.eq_2]
   unfold aia
   dsimp only
   rw [hr]
   simp only [Option.bind_some, mG]
   exact ⟨_, rfl⟩
  rw [P49.eq_2]
  unfold amA
  dsimp only
  rw [g1, g2]
  simp only [Option.bind_some, mG]
  exact ⟨_, rfl⟩
theorem aAg {N n : Nat} {q : Field} (h : RP (Fit N) q) (hn : 3 * N + 1 ≤ n) : ∃ r, P93 n q = some r := by
 obtain ⟨n', rfl⟩ : ∃ n', n = n' + 1 := ⟨n - 1, by omega⟩
 obtain ⟨m, v⟩ := q
 obtain ⟨r, hr⟩ := acQ N n' v h (by omega)
 obtain ⟨_, _, _, ⟨_, _⟩, ⟨_, _⟩, _, _, _⟩ := v
 rw [P93.eq_2]
 unfold aia
 dsimp only
 rw [hr]
 simp only [Option.bind_some, mG]
 exact ⟨_, rfl⟩
theorem ayL {n : Nat} {l : List ByteArray} {x : Option (List ByteArray)} (h1 : l.length * 16 ≤ reachBytes) : ∃ r, aib n ⟨l, x⟩ = some r := by
 obtain ⟨q, hq⟩ := nC (p := fun x : ByteArray => some (x.size : Int)) (c := og) (dX (by omega) h1) (fun _ _ => ⟨_, rfl⟩) (ln l)
 unfold aib
 dsimp only
 rw [avJ, hq]
 exact ⟨_, rfl⟩
theorem ayM {n : Nat} {q : Act} (h : Mx (fun e => ∃ r, Sg n e = some r) q) : ∃ r, YM (n + 1) q = some r := by
 obtain ⟨k, m, e⟩ := q
 obtain ⟨r, hr⟩ : ∃ r, Sg n e = some r := h
 obtain ⟨_, _, _, ⟨_, _⟩, ⟨_, _⟩, ⟨_, _⟩, _, ⟨_, _⟩, ⟨_, _⟩, _⟩ := e
 rw [YM.eq_2]
 unfold adz
 dsimp only
 rw [hr]
 simp only [Option.bind_some, mG]
 exact ⟨_, rfl⟩
theorem aAh : ∀ (N n : Nat) (e : Expr), sJ N e → 3 * N ≤ n → ∃ r, Sg n e = some r := by
 intro N
 induction N with
 | zero => intro n v h; exact absurd h (by obtain ⟨_, _, _, ⟨_, _⟩, ⟨_, _⟩, ⟨_, _⟩, _, ⟨_, _⟩, ⟨_, _⟩, _⟩ := v; simp [sJ])
 | succ N ih =>
  intro n e h hn
  obtain ⟨n', rfl⟩ : ∃ n', n = n' + 3 := ⟨n - 3, by omega⟩
  obtain ⟨k1, n1, s1, ⟨a1, ax1⟩, ⟨ns1, nx1⟩, ⟨v1, vx1⟩, el1, ⟨ky1, kx1⟩, ⟨c1, cx1⟩, t1⟩ := e
  obtain ⟨⟨p1, p2⟩, p3, ⟨p4, p5⟩, ⟨p6, p7⟩, p8, p9⟩ := h
  obtain ⟨r1, g1⟩ := alN (n := n' + 1) (x := ax1) p1 fun e he => ih (n' + 1) e (p2 e he) (by omega)
  obtain ⟨r2, g2⟩ := alN (n := n' + 1) (x := vx1) p4 fun e he => ih (n' + 1) e (p5 e he) (by omega)
  obtain ⟨r3, g3⟩ := alN (n := n' + 1) (x := kx1) p6 fun e he => ih (n' + 1) e (p7 e he) (by omega)
  obtain ⟨r4, g4⟩ := aru (n := n' + 1) (x := cx1) p8 fun q hq => by
   have := p9 q hq
   obtain ⟨k, m, e⟩ := q
   exact ayM (ih n' e this (by omega))
  obtain ⟨r5, g5⟩ := ayL (n := n' + 2) (x := nx1) p3
  rw [Sg.eq_2]
  unfold adA
  dsimp only
  rw [g1, g2, g3, g4, g5]
  simp only [Option.bind_some, mG]
  exact ⟨_, rfl⟩
theorem ayN {N n : Nat} {l : Sl Value} (h : alp N l) (hn : 3 * N + 1 ≤ n) : ∃ r, P72 n l = some r := by
 obtain ⟨n', rfl⟩ : ∃ n', n = n' + 1 := ⟨n - 1, by omega⟩
 obtain ⟨l, x⟩ := l
 exact arq h.1 fun v hv => acQ N n' v (h.2 v hv) (by omega)
theorem arw {N n : Nat} {l : Sl Field} (h : aac N l) (hn : 3 * N + 2 ≤ n) : ∃ r, P73 n l = some r := by
 obtain ⟨n', rfl⟩ : ∃ n', n = n' + 1 := ⟨n - 1, by omega⟩
 obtain ⟨l, x⟩ := l
 exact ars h.1 fun v hv => aAg (h.2 v hv) (by omega)
theorem alO {N n : Nat} {l : Sl Act} (h : Ua N l) (hn : 3 * N + 2 ≤ n) : ∃ r, P92 n l = some r := by
 obtain ⟨n', rfl⟩ : ∃ n', n = n' + 2 := ⟨n - 2, by omega⟩
 obtain ⟨l, x⟩ := l
 refine aru h.1 fun q hq => ?_
 have := h.2 q hq
 obtain ⟨k, m, e⟩ := q
 exact ayM (aAh N n' e this (by omega))
theorem aAi {N n : Nat} {c : Cell} (h : zN N c) (hn : 3 * N + 2 ≤ n) : ∃ r, P71 n c = some r := by
 obtain ⟨k, m, v, u, ds, do_, un, en, r1, r2, od, pa⟩ := c
 obtain ⟨f1, f2, f3, f4, f5, f6, f7, f8⟩ := h
 dsimp only at f1 f2 f3 f4 f5 f6 f7 f8
 obtain ⟨s1, g1⟩ := acQ N n v f1 (by omega)
 obtain ⟨s2, g2⟩ := acQ N n u f2 (by omega)
 obtain ⟨s3, g3⟩ := ayN f3 (n := n) (by omega)
 obtain ⟨s4, g4⟩ := alO f4 (n := n) (by omega)
 obtain ⟨s5, g5⟩ := alO f5 (n := n) (by omega)
 obtain ⟨s6, g6⟩ := arw f6 (n := n) (by omega)
 obtain ⟨s7, g7⟩ := alO f7 (n := n) (by omega)
 obtain ⟨s8, g8⟩ := arw f8 (n := n) (by omega)
 clear f1 f2 f3 f4 f5 f6 f7 f8
 obtain ⟨_, _, _, ⟨_, _⟩, ⟨_, _⟩, _, _, _⟩ := v
 obtain ⟨_, _, _, ⟨_, _⟩, ⟨_, _⟩, _, _, _⟩ := u
 obtain ⟨_, _⟩ := ds
 obtain ⟨_, _⟩ := do_
 obtain ⟨_, _⟩ := un
 obtain ⟨_, _⟩ := en
 obtain ⟨_, _⟩ := od
 obtain ⟨_, _⟩ := pa
 unfold P71
 dsimp only
 rw [g1, g2, g3, g4, g5, g6, g7, g8]
 simp only [Option.bind_some, mG]
 exact ⟨_, rfl⟩
theorem alP {N n : Nat} {c : Child} (h : Fit N c.jN) (hn : 3 * N ≤ n) : ∃ r, P45 n c = some r := by
 obtain ⟨k, d, m, v⟩ := c
 obtain ⟨s1, g1⟩ := acQ N n v h (by omega)
 clear h
 obtain ⟨_, _, _, ⟨_, _⟩, ⟨_, _⟩, _, _, _⟩ := v
 unfold P45
 dsimp only
 rw [g1]
 simp only [Option.bind_some, mG]
 exact ⟨_, rfl⟩
theorem arx {N n : Nat} {l : List Cell} {x : Option (List Cell)} (h : l.length * 400 ≤ reachBytes ∧ ∀ c ∈ l, zN N c) (hn : 3 * N + 2 ≤ n) : ∃ r, P46 n ⟨l, x⟩ = some r := by
 obtain ⟨q, hq⟩ := nC (p := P71 n) (c := og) (dX (by omega) h.1) (fun c hc => aAi (h.2 c hc) hn) (ln l)
 unfold P46
 dsimp only
 rw [avM, hq]
 exact ⟨_, rfl⟩
theorem alQ {N n : Nat} {l : List Child} {x : Option (List Child)} (h : l.length * 152 ≤ reachBytes ∧ ∀ c ∈ l, Fit N c.jN) (hn : 3 * N ≤ n) : ∃ r, P47 n ⟨l, x⟩ = some r := by
 obtain ⟨q, hq⟩ := nC (p := P45 n) (c := og) (dX (by omega) h.1) (fun c hc => alP (h.2 c hc) hn) (ln l)
 unfold P47
 dsimp only
 rw [aoL, hq]
 exact ⟨_, rfl⟩
theorem aAj : ∀ (N n : Nat) (x : Inst), jH N x → 3 * N + 2 ≤ n → ∃ r, P16 n x = some r := by
 intro N
 induction N with
 | zero => intro n v h; exact absurd h (by obtain ⟨_, ⟨_, _, _, ⟨_, _, _, ⟨_, _⟩, ⟨_, _⟩, _, _, _⟩⟩, ⟨_, _⟩, ⟨_, _⟩, ⟨_, _⟩, _, _, _, ⟨_, _, _, ⟨_, _⟩, ⟨_, _⟩, _, _, _⟩, _, _, ⟨_, _⟩, _, _⟩ := v; simp [jH])
 | succ N ih =>
  intro n x h hn
  obtain ⟨n', rfl⟩ : ∃ n', n = n' + 2 := ⟨n - 2, by omega⟩
  obtain ⟨d, c, ⟨s, sx⟩, ⟨o, ox⟩, ⟨k, kx⟩, nd, f, b, e, w, h', ⟨p, px⟩, r, q⟩ := x
  obtain ⟨h1, h2, h3, h6, h4, h5⟩ := h
  obtain ⟨s1, g1⟩ := alP h1 (n := n' + 1) (by omega)
  obtain ⟨s2, g2⟩ := arx (x := sx) h2 (n := n' + 1) (by omega)
  obtain ⟨s3, g3⟩ := alQ (x := ox) h3 (n := n' + 1) (by omega)
  obtain ⟨s4, g4⟩ := acQ N (n' + 1) e h6 (by omega)
  obtain ⟨s5, g5⟩ := arv (n := n') (x := kx) h4.1 fun v hv => ih n' v (h4.2 v hv) (by omega)
  obtain ⟨s6, g6⟩ := arv (n := n') (x := px) h5.1 fun v hv => ih n' v (h5.2 v hv) (by omega)
  clear h1 h2 h3 h4 h5 h6
  obtain ⟨_, _, _, ⟨_, _, _, ⟨_, _⟩, ⟨_, _⟩, _, _, _⟩⟩ := c
  obtain ⟨_, _, _, ⟨_, _⟩, ⟨_, _⟩, _, _, _⟩ := e
  rw [P16.eq_2]
  unfold amE
  dsimp only
  rw [g1, g2, g3, g4, g5, g6]
  simp only [Option.bind_some, mG]
  exact ⟨_, rfl⟩
theorem aAk : ∀ (N n : Nat) (x : Inst) (a : Int), jH N x → 4 * N + 2 ≤ n → ∃ r, P24 n x a = some r := by
 intro N
 induction N with
 | zero => intro n v a h; exact absurd h (by obtain ⟨_, ⟨_, _, _, ⟨_, _, _, ⟨_, _⟩, ⟨_, _⟩, _, _, _⟩⟩, ⟨_, _⟩, ⟨_, _⟩, ⟨_, _⟩, _, _, _, ⟨_, _, _, ⟨_, _⟩, ⟨_, _⟩, _, _, _⟩, _, _, ⟨_, _⟩, _, _⟩ := v; simp [jH])
 | succ N ih =>
  intro n x a h hn
  obtain ⟨n', rfl⟩ : ∃ n', n = n' + 1 := ⟨n - 1, by omega⟩
  obtain ⟨d, c, ⟨s, sx⟩, ⟨o, ox⟩, ⟨k, kx⟩, nd, f, b, e, w, h', ⟨p, px⟩, r, q⟩ := x
  obtain ⟨h1, h2, h3, h6, h4, h5⟩ := h
  obtain ⟨s1, g1⟩ := alP h1 (n := n') (by omega)
  obtain ⟨s2, g2⟩ := arx (x := sx) h2 (n := n') (by omega)
  obtain ⟨s3, g3⟩ := alQ (x := ox) h3 (n := n') (by omega)
  obtain ⟨s4, g4⟩ := acQ N n' e h6 (by omega)
  have g5 : ∀ b, ∃ q, wl (PO n' (P24 n') k a) (b, 0) = some q := fun b => by
   rw [avO]
   exact nC (dX (by omega) h4.1) (fun v hv => ih n' v _ (h4.2 v hv) (by omega)) b
  have g6 : ∀ b, ∃ q, wl (PS n' (P24 n') p a) (b, 0) = some q := fun b => by
   rw [avP]
   exact nC (dX (by omega) h5.1) (fun v hv => ih n' v _ (h5.2 v hv) (by omega)) b
  clear h1 h2 h3 h4 h5 h6
  obtain ⟨_, _, _, ⟨_, _, _, ⟨_, _⟩, ⟨_, _⟩, _, _, _⟩⟩ := c
  obtain ⟨_, _, _, ⟨_, _⟩, ⟨_, _⟩, _, _, _⟩ := e
  rw [P24.eq_2]
  unfold amG
  dsimp only
  rw [g1, g2, g3, g4]
  simp only [Option.bind_some]
  refine ae6 (g5 _) fun q => ?_
  obtain ⟨q1, q2⟩ := q
  refine ae6 (g6 _) fun q => ?_
  obtain ⟨q1, q2⟩ := q
  exact ⟨_, rfl⟩
theorem aoM (fu : Nat) (l : List Int) (x : Option (List Int)) (hl : l.length ≤ 9223372036854775807) : ∃ r, P23 fu ⟨l, x⟩ = some r := by
 obtain ⟨q, hq⟩ : ∃ q, wl (PN fu l) (false, 0, 0) = some q := by
  obtain ⟨b, h1, _⟩ := UU (f := PN fu l) (fun a => ∃ k : Nat, a.2.2 = (k : Int) ∧ k ≤ l.length) (fun a => l.length - a.2.2.toNat) (fun _ => True) (fun a hI => by
   obtain ⟨b, s, i⟩ := a
   obtain ⟨k, hk0, hk⟩ := hI
   dsimp only at hk0
   subst hk0
   unfold PN
   dsimp only
   by_cases hlt : k < l.length
   ·have h1 : decide ((k : Int) < ln l) = true := by simp [ln]; omega
    rw [h1, qB l k hlt]
    simp only [cond_true, Option.bind_some]
    cases decide (1048576 < gD (s + l[k])) with
    | true => exact .inr ⟨_, rfl, trivial⟩
    | false =>
     left
     refine ⟨_, rfl, ⟨k + 1, ?_, by omega⟩, ?_⟩
     ·show gD _ = _
      rw [wE (by omega) (by omega)]; rfl
     ·show l.length - (gD _).toNat < l.length - _
      rw [wE (by omega) (by omega)]
      omega
   ·have h1 : decide ((k : Int) < ln l) = false := by simp [ln]; omega
    rw [h1]
    exact .inr ⟨_, rfl, trivial⟩) l.length (false, 0, 0) (by simp) ⟨0, rfl, by omega⟩
  exact ⟨b, h1⟩
 unfold P23
 dsimp only
 rw [hq]
 rcases q with ⟨_, _, _⟩ | ⟨_, _, _⟩ <;> exact ⟨_, rfl⟩
theorem aoN {N n : Nat} {x : Inst} (h : jH N x) (hn : 4 * N + 2 ≤ n) : ∃ r, P8 n x = some r := by
 obtain ⟨s1, g1⟩ := aAj N n x h (by omega)
 obtain ⟨s2, g2⟩ := aAk N n x 1 h hn
 obtain ⟨s3, g3⟩ := aoM n [s1] (some []) (by simp)
 clear h
 obtain ⟨_, ⟨_, _, _, ⟨_, _, _, ⟨_, _⟩, ⟨_, _⟩, _, _, _⟩⟩, ⟨_, _⟩, ⟨_, _⟩, ⟨_, _⟩, _, _, _, ⟨_, _, _, ⟨_, _⟩, ⟨_, _⟩, _, _, _⟩, _, _, ⟨_, _⟩, _, _⟩ := x
 unfold P8
 dsimp only
 simp only [g1, g2, g3, Option.bind_some, mG]
 exact ⟨_, rfl⟩
def OKI (x : Inst) : Prop := WT tab 34 (jO x)
def avQ (x : Child) : Prop := WT tab 29 (fZ x)
theorem RV (w : Value) : (fK w).length = 8 := by obtain ⟨_, _, _, ⟨_, _⟩, ⟨_, _⟩, _, _, _⟩ := w; rfl
theorem alR (w : Child) : (fZ w).length = 11 := by obtain ⟨_, _, _, v⟩ := w; simp only [fZ, List.length_append, List.length_cons, List.length_nil, RV]
theorem alS {N : Nat} {c : Cell} (h : OKC c) (hs : SizeOf.sizeOf c ≤ N) : zN N c := by
 obtain ⟨k, nm, v, nx, ⟨dl, dx⟩, ⟨ol, ox⟩, ⟨ul, ux⟩, ⟨el, ex⟩, r, q, ⟨pl, px⟩, ⟨tl, tx⟩⟩ := c
 simp only [Cell.mk.sizeOf_spec, Sl.mk.sizeOf_spec] at hs
 obtain ⟨a0, _, e0, h0, a1, _, e1, h1, a2, _, e2, h2, a3, _, e3, h3, a4, _, e4, h4, a5, _, e5, h5, a6, _, e6, h6, a7, _, e7, h7, a8, _, e8, h8, a9, _, e9, h9, a10, _, e10, h10, a11, _, e11, h11, e12⟩ := h.Ao TU rfl
 obtain ⟨_, rfl, _⟩ := h0.qy TV
 obtain ⟨_, rfl, _⟩ := h1.yx Lb
 obtain ⟨v', rfl⟩ := alj h2
 obtain ⟨nx', rfl⟩ := alj h3
 obtain ⟨r4, q4, rfl, _⟩ := h4.eZ Mc
 obtain ⟨r5, q5, rfl, _⟩ := h5.eZ FQ
 obtain ⟨r6, q6, rfl, _⟩ := h6.eZ FQ
 obtain ⟨r7, q7, rfl, _⟩ := h7.eZ Ky
 obtain ⟨_, rfl⟩ := h8.wD Mw
 obtain ⟨_, rfl⟩ := h9.wD Mw
 obtain ⟨Xn, q10, rfl, _⟩ := h10.eZ FQ
 obtain ⟨r11, q11, rfl, _⟩ := h11.eZ Ky
 subst e12; subst e11; subst e10; subst e9; subst e8; subst e7; subst e6; subst e5; subst e4; subst e3; subst e2; subst e1
 simp only [jZ, List.cons_append, List.nil_append, List.append_assoc, List.cons.injEq] at e0
 obtain ⟨_, _, e0⟩ := e0
 obtain ⟨g2, e0⟩ := List.append_inj e0 (by rw [RV, RV])
 obtain ⟨g3, e0⟩ := List.append_inj e0 (by rw [RV, RV])
 simp only [List.cons.injEq] at e0
 obtain ⟨g4, g5, g6, g7, _, _, g10, g11, _⟩ := e0
 have h2' : OKV v := by unfold OKV; rw [g2]; exact h2
 have h3' : OKV nx := by unfold OKV; rw [g3]; exact h3
 have as_ : ∀ {l : List Act} {x : Option (List Act)}, (l.length * 200 ≤ reachBytes ∧ ∀ a ∈ l, OKA a) → SizeOf.sizeOf l ≤ N → Ua N ⟨l, x⟩ := by
  intro l x h hn
  refine ⟨h.1, fun t ht => ?_⟩
  have h1 := h.2 t ht
  have h2 := List.sizeOf_lt_of_mem ht
  obtain ⟨k, m, e⟩ := t
  simp only [Act.mk.sizeOf_spec] at h2
  exact aor N e (by omega) (T9 h1)
 have fs_ : ∀ {l : List Field} {x : Option (List Field)}, (l.length * 128 ≤ reachBytes ∧ ∀ a ∈ l, OKF a) → SizeOf.sizeOf l ≤ N → aac N ⟨l, x⟩ := by
  intro l x h hn
  refine ⟨h.1, fun t ht => ?_⟩
  have h1 := h.2 t ht
  have h2 := List.sizeOf_lt_of_mem ht
  obtain ⟨m, e⟩ := t
  simp only [Field.mk.sizeOf_spec] at h2
  exact HY N e (by omega) (TY h1)
 refine ⟨HY N v (by omega) h2', HY N nx (by omega) h3', ?_, as_ (ae7 g5 h5) (by omega), as_ (ae7 g6 h6) (by omega), fs_ (ark g7 h7) (by omega), as_ (ae7 g10 h10) (by omega), fs_ (ark g11 h11) (by omega)⟩
 have hr := ayC g4 h4
 exact ⟨hr.1, fun t ht => by
  have hm : t ∈ dl := ht
  have := List.sizeOf_lt_of_mem hm
  exact HY N t (by omega) (hr.2 t hm)⟩
theorem aan {c : Child} (h : avQ c) : OKV c.jN := by
 obtain ⟨k, d, m, v⟩ := c
 obtain ⟨a0, _, e0, h0, a1, _, e1, h1, a2, _, e2, h2, a3, _, e3, h3, e4⟩ := h.Ao TQ rfl
 obtain ⟨_, rfl, _⟩ := h0.yx Lb
 obtain ⟨_, rfl, _⟩ := h1.qy RO
 obtain ⟨_, rfl, _⟩ := h2.yx Lb
 subst e4; subst e3; subst e2; subst e1
 simp only [fZ, List.cons_append, List.nil_append, List.append_assoc, List.cons.injEq, List.append_nil] at e0
 obtain ⟨_, _, _, rfl⟩ := e0
 exact h3
theorem arz {l : List Inst} {x : Option (List Inst)} {d : D} (e : jo ⟨l, x⟩ = d) (h : WT tab 32 [d]) : l.length * 416 ≤ reachBytes ∧ ∀ v ∈ l, OKI v := by
 subst e
 obtain ⟨r, q, e, h1, h2, _⟩ := h.eZ Md
 simp only [jo, List.cons.injEq, D.sl.injEq] at e
 obtain ⟨⟨rfl, _⟩, _⟩ := e
 rw [mJ] at h1 h2
 simp only [List.length_map, List.mem_map, forall_exists_index, and_imp, forall_apply_eq_imp_iff₂, Nat.add_mul] at h1 h2
 exact ⟨by omega, h2⟩
theorem aoO : ∀ (N : Nat) (x : Inst), SizeOf.sizeOf x ≤ N → OKI x → jH N x := by
 intro N
 induction N with
 | zero => intro x h; obtain ⟨_, ⟨_, _, _, ⟨_, _, _, ⟨_, _⟩, ⟨_, _⟩, _, _, _⟩⟩, ⟨_, _⟩, ⟨_, _⟩, ⟨_, _⟩, _, _, _, ⟨_, _, _, ⟨_, _⟩, ⟨_, _⟩, _, _, _⟩, _, _, ⟨_, _⟩, _, _⟩ := x; simp only [Inst.mk.sizeOf_spec] at h; omega
 | succ N ih =>
  intro x hx h
  obtain ⟨d, c, ⟨s, sx⟩, ⟨o, ox⟩, ⟨k, kx⟩, n, f, b, e, w, h', ⟨p, px⟩, r, q⟩ := x
  obtain ⟨a0, _, e0, h0, a1, _, e1, h1, a2, _, e2, h2, a3, _, e3, h3, a4, _, e4, h4, a5, _, e5, h5, a6, _, e6, h6, a7, _, e7, h7, a8, _, e8, h8, a9, _, e9, h9, a10, _, e10, h10, a11, _, e11, h11, a12, _, e12, h12, a13, _, e13, h13, e14⟩ := h.Ao TP rfl
  obtain ⟨_, rfl, _⟩ := h0.qy acE
  obtain ⟨c', rfl⟩ := ayA h1
  obtain ⟨r2, q2, rfl, l2, m2, _⟩ := h2.eZ TT
  obtain ⟨r3, q3, rfl, l3, m3, _⟩ := h3.eZ TW
  obtain ⟨r4, q4, rfl, _⟩ := h4.eZ Md
  obtain ⟨_, rfl, _⟩ := h5.qy acE
  obtain ⟨_, rfl⟩ := h6.wD Mw
  obtain ⟨_, rfl⟩ := h7.wD Mw
  obtain ⟨e', rfl⟩ := alj h8
  obtain ⟨_, rfl, _⟩ := h9.yx Lb
  obtain ⟨_, rfl⟩ := h10.wD Mw
  obtain ⟨r11, q11, rfl, _⟩ := h11.eZ Md
  obtain ⟨_, rfl⟩ := h12.wD Mw
  obtain ⟨_, rfl⟩ := h13.wD Mw
  subst e14; subst e13; subst e12; subst e11; subst e10; subst e9; subst e8; subst e7; subst e6; subst e5; subst e4; subst e3; subst e2; subst e1
  simp only [jO, List.cons_append, List.nil_append, List.append_assoc, List.cons.injEq] at e0
  obtain ⟨_, e0⟩ := e0
  obtain ⟨g1, e0⟩ := List.append_inj e0 (by rw [alR, alR])
  simp only [List.cons.injEq] at e0
  obtain ⟨g2, g3, g4, _, _, _, e0⟩ := e0
  obtain ⟨g8, e0⟩ := List.append_inj e0 (by rw [RV, RV])
  simp only [List.cons.injEq] at e0
  obtain ⟨_, _, g11, _⟩ := e0
  simp only [D.sl.injEq] at g2 g3
  obtain ⟨rfl, _⟩ := g2
  obtain ⟨rfl, _⟩ := g3
  simp only [List.length_map, List.mem_map, forall_exists_index, and_imp, forall_apply_eq_imp_iff₂, Nat.add_mul] at l2 m2 l3 m3
  have k4 := arz g4 h4
  have k11 := arz g11 h11
  simp only [Inst.mk.sizeOf_spec, Sl.mk.sizeOf_spec] at hx
  have hc : avQ c := by unfold avQ; rw [g1]; exact h1
  have he : OKV e := by unfold OKV; rw [g8]; exact h8
  refine ⟨?_, ⟨by dsimp only; omega, fun x hx => ?_⟩, ⟨by dsimp only; omega, fun x hx => ?_⟩, HY N e (by omega) he, ⟨k4.1, fun x hx => ?_⟩, k11.1, fun x hx => ?_⟩
  ·have := aan hc
   obtain ⟨k, d, m, v⟩ := c
   simp only [Child.mk.sizeOf_spec] at hx
   exact HY N v (by omega) this
  ·have := List.sizeOf_lt_of_mem (show x ∈ s from hx); exact alS (m2 x hx) (by omega)
  ·have h1 := List.sizeOf_lt_of_mem (show x ∈ o from hx)
   have h2 := aan (m3 x hx)
   obtain ⟨k, d, m, v⟩ := x
   simp only [Child.mk.sizeOf_spec] at h1
   exact HY N v (by omega) h2
  ·have := List.sizeOf_lt_of_mem (show x ∈ k from hx); exact ih x (by omega) (k4.2 x hx)
  ·have := List.sizeOf_lt_of_mem (show x ∈ p from hx); exact ih x (by omega) (k11.2 x hx)
theorem Ue {l : List Inst} (h : ∀ a ∈ l, (nodes a).length ≤ mg (jO a)) : (l.flatMap nodes).length ≤ jA (l.map jO) := by
 induction l with
 | nil => simp
 | cons a r ih =>
  have h1 := h a (by simp)
  have h2 := ih fun x hx => h x (by simp [hx])
  rw [List.flatMap_cons, List.length_append, List.map_cons, jA]
  omega
theorem acR : ∀ x : Inst, (nodes x).length ≤ mg (jO x) := by
 refine EL fun x hk hs => ?_
 have h1 := Ue hk
 have h2 := Ue hs
 rw [mF, List.length_cons, List.length_append]
 obtain ⟨d, c, s, o, ⟨k, kx⟩, n, f, b, e, w, h, ⟨p, px⟩, r, q⟩ := x
 simp only [iC, fB] at h1 h2 ⊢
 simp only [jO, jo, Al, mg, I6, mJ]
 omega
abbrev zV : Value := Value.mk 0 0 ByteArray.empty (Sl.mk [] (some [])) (Sl.mk [] (some [])) 0 ByteArray.empty false
def KE : Inst → Inst | .mk d c _ _ _ _ _ _ _ _ _ _ _ _ => Inst.mk d (Child.mk c.Key 4 ByteArray.empty zV) (Sl.mk [] (some [])) (Sl.mk [] (some [])) (Sl.mk [] (some [])) 0 false false zV ByteArray.empty false (Sl.mk [] (some [])) false false
theorem steps {fu : Nat} {x : Inst} {a i : Int} {l : List Inst} {k : Nat} {f z w1 w2 : Inst} {lf m : List Inst} {lx fx mx : Option (List Inst)}
  (h8 : P8 fu x = some false) (h9 : P9 fu x = some true) (h10 : P10 fu x = some ⟨l, lx⟩) (hk : Int.tmod (gD a) (ln l) = (k : Int)) (hl0 : (ln l == 0) = false) (hf : idx l (k : Int) = some f)
  (hz : P11 fu x (KE f) = some z) (hw1 : P11 fu x f = some w1) (hs1 : P12 fu w1 x = some true) (hw2 : P11 fu z f = some w2) (hs2 : P12 fu w2 x = some true) (hc : P9 fu z = some true)
  (hlf : P10 fu f = some ⟨lf, fx⟩) (hm : P10 fu z = some ⟨m, mx⟩) (hlen : (ln m == gD (ln l - gD (ln lf - 1))) = true) (hloop : wl (TH fu a l lf m) 0 = some (.inl i)) :
  P3 fu x a = some true := by
 obtain ⟨_, ⟨_, _, _, ⟨_, _, _, ⟨_, _⟩, ⟨_, _⟩, _, _, _⟩⟩, ⟨_, _⟩, ⟨_, _⟩, ⟨_, _⟩, _, _, _, ⟨_, _, _, ⟨_, _⟩, ⟨_, _⟩, _, _, _⟩, _, _, ⟨_, _⟩, _, _⟩ := x
 obtain ⟨_, ⟨_, _, _, ⟨_, _, _, ⟨_, _⟩, ⟨_, _⟩, _, _, _⟩⟩, ⟨_, _⟩, ⟨_, _⟩, ⟨_, _⟩, _, _, _, ⟨_, _, _, ⟨_, _⟩, ⟨_, _⟩, _, _, _⟩, _, _, ⟨_, _⟩, _, _⟩ := f
 obtain ⟨_, ⟨_, _, _, ⟨_, _, _, ⟨_, _⟩, ⟨_, _⟩, _, _, _⟩⟩, ⟨_, _⟩, ⟨_, _⟩, ⟨_, _⟩, _, _, _, ⟨_, _, _, ⟨_, _⟩, ⟨_, _⟩, _, _, _⟩, _, _, ⟨_, _⟩, _, _⟩ := z
 obtain ⟨_, ⟨_, _, _, ⟨_, _, _, ⟨_, _⟩, ⟨_, _⟩, _, _, _⟩⟩, ⟨_, _⟩, ⟨_, _⟩, ⟨_, _⟩, _, _, _, ⟨_, _, _, ⟨_, _⟩, ⟨_, _⟩, _, _, _⟩, _, _, ⟨_, _⟩, _, _⟩ := w1
 obtain ⟨_, ⟨_, _, _, ⟨_, _, _, ⟨_, _⟩, ⟨_, _⟩, _, _, _⟩⟩, ⟨_, _⟩, ⟨_, _⟩, ⟨_, _⟩, _, _, _, ⟨_, _, _, ⟨_, _⟩, ⟨_, _⟩, _, _, _⟩, _, _, ⟨_, _⟩, _, _⟩ := w2
 simp only [KE, zV] at hz
 unfold P3 P7
 dsimp only
 simp only [h8, h9, h10, hk, hl0, hf, hz, hw1, hs1, hw2, hs2, hc, hlf, hm, hlen, hloop, Option.bind_some, Bool.not_true, Bool.not_false, cond_true, cond_false]
theorem early {fu : Nat} {x : Inst} {a : Int} {b c : Bool} (h8 : P8 fu x = some b) (h9 : P9 fu x = some c) (h : b = true ∨ c = false) : P3 fu x a = some true := by
 obtain ⟨_, ⟨_, _, _, ⟨_, _, _, ⟨_, _⟩, ⟨_, _⟩, _, _, _⟩⟩, ⟨_, _⟩, ⟨_, _⟩, ⟨_, _⟩, _, _, _, ⟨_, _, _, ⟨_, _⟩, ⟨_, _⟩, _, _, _⟩, _, _, ⟨_, _⟩, _, _⟩ := x
 unfold P3 P7
 dsimp only
 simp only [h8, h9, Option.bind_some, Bool.not_true, Bool.not_false, cond_true, cond_false, mG]
 rcases h with rfl | rfl
 ·rfl
 ·cases b <;> rfl
theorem low_mono : ∀ (D E : Nat) (x : Inst), D ≤ E → low D x → low E x := by
 intro D
 induction D with
 | zero => intro E x _ h; exact h.elim
 | succ D ih =>
  intro E x hE h
  obtain ⟨E, rfl⟩ : ∃ e, E = e + 1 := ⟨E - 1, by omega⟩
  exact ⟨fun y hy => ih E y (by omega) (h.1 y hy), fun y hy => ih E y (by omega) (h.2 y hy)⟩
theorem alT {q : Inst} : ∀ (D : Nat) (x : Inst), low D x → q ∈ nodes x → low D q := by
 intro D
 induction D with
 | zero => intro x h; exact h.elim
 | succ D ih =>
  intro x h hq
  rcases iD.1 hq with rfl | ⟨y, hy, hq⟩ | ⟨y, hy, hq⟩
  ·exact h
  ·exact low_mono D (D + 1) q (by omega) (ih y (h.1 y hy) hq)
  ·exact low_mono D (D + 1) q (by omega) (ih y (h.2 y hy) hq)
theorem H8 {q : Inst} : ∀ x, q ∈ nodes x → ∀ r ∈ nodes q, r ∈ nodes x := by
 refine EL fun x hk hs hq r hr => ?_
 rcases iD.1 hq with rfl | ⟨y, hy, hq⟩ | ⟨y, hy, hq⟩
 ·exact hr
 ·exact iD.2 (.inr (.inl ⟨y, hy, hk y hy hq r hr⟩))
 ·exact iD.2 (.inr (.inr ⟨y, hy, hs y hy hq r hr⟩))
theorem af3 {N : Nat} {q : Inst} : ∀ x, jH N x → q ∈ nodes x → jH N q := by
 have : ∀ (N : Nat) (x : Inst), jH N x → q ∈ nodes x → jH N q := by
  intro N
  induction N with
  | zero => intro v h; exact absurd h (by obtain ⟨_, ⟨_, _, _, ⟨_, _, _, ⟨_, _⟩, ⟨_, _⟩, _, _, _⟩⟩, ⟨_, _⟩, ⟨_, _⟩, ⟨_, _⟩, _, _, _, ⟨_, _, _, ⟨_, _⟩, ⟨_, _⟩, _, _, _⟩, _, _, ⟨_, _⟩, _, _⟩ := v; simp [jH])
  | succ N ih =>
   intro x h hq
   rcases iD.1 hq with rfl | ⟨y, hy, hq2⟩ | ⟨y, hy, hq2⟩
   ·exact h
   ·obtain ⟨d, c, s, o, ⟨k, kx⟩, n, f, b, e, w, h', ⟨p, px⟩, r, t⟩ := x
    exact Fq N (N + 1) q (by omega) (ih y (h.2.2.2.2.1.2 y hy) hq2)
   ·obtain ⟨d, c, s, o, ⟨k, kx⟩, n, f, b, e, w, h', ⟨p, px⟩, r, t⟩ := x
    exact Fq N (N + 1) q (by omega) (ih y (h.2.2.2.2.2.2 y hy) hq2)
 exact this N
theorem aao {x : Inst} (h : FT x) : FT (fF x) := by
 obtain ⟨⟨h1, h2⟩, h3⟩ := h
 refine ⟨⟨(avn _ _).2 h1, fun q hq => ?_⟩, by rw [aff]; exact h3⟩
 rw [uo] at hq
 obtain ⟨r, hr, rfl⟩ := List.mem_map.1 hq
 rw [af0]
 exact h2 r hr
theorem acS {x q : Inst} (h : FT x) (hq : q ∈ nodes x) : FT q := by
 obtain ⟨⟨h1, h2⟩, h3⟩ := h
 refine ⟨⟨alT _ _ h1 hq, fun r hr => h2 r (H8 x hq r hr)⟩, ?_⟩
 obtain ⟨k, hk⟩ := List.mem_iff_getElem?.1 hq
 obtain ⟨A, B, e, _⟩ := RU (y := q) x k q h3 hk rfl
 rw [e] at h3
 exact (List.nodup_append.1 (List.nodup_append.1 h3).1).2.1
theorem aap (f : Inst) : iW (KE f) = iW f := by cases f; rfl
theorem alU (f : Inst) : iC (KE f) = [] := by cases f; rfl
theorem afj (f : Inst) : fB (KE f) = [] := by cases f; rfl
theorem ayO (f : Inst) : keyOf (KE f) = keyOf f := by cases f; rfl
theorem aoP {f : Inst} (h : 0 < iW f) : mQ (KE f) = true := by
 obtain ⟨d, c, s, o, ⟨k, kx⟩, n, f, b, e, w, h', ⟨p, px⟩, r, q⟩ := f
 simp only [iW] at h
 simp [KE, mQ, aaj, aai, Me, ln, nR, h]
theorem aoQ (f : Inst) : nodes (KE f) = [KE f] := by rw [mF, alU, afj]; rfl
theorem avR (f : Inst) : nums (KE f) = [iW f] := by rw [nums, aoQ, List.map_cons, aap]; rfl
theorem ayP (f : Inst) : jH 2 (KE f) := by
 obtain ⟨d, c, s, o, ⟨k, kx⟩, n, f, b, e, w, h', ⟨p, px⟩, r, q⟩ := f
 simp [KE, jH, Fit, zV]
theorem alV {x p q : Inst} (h : (nums x).Nodup) (hp : p ∈ nodes x) (hq : q ∈ nodes x) (e : iW p = iW q) : p = q := by
 obtain ⟨i, hi⟩ := List.mem_iff_getElem?.1 hp
 obtain ⟨j, hj⟩ := List.mem_iff_getElem?.1 hq
 have h1 : (nums x)[i]? = some (iW p) := by rw [nums, List.getElem?_map, hi]; rfl
 have h2 : (nums x)[j]? = some (iW q) := by rw [nums, List.getElem?_map, hj]; rfl
 have h3 : i < (nums x).length := (List.getElem?_eq_some_iff.1 h1).1
 have := (List.getElem?_inj (i := i) (j := j) h3 h).1 (by rw [h1, h2, e])
 subst this
 rw [hi] at hj
 cases hj
 rfl
theorem af4 {x f y : Inst} (h : FT x) (hf : f ∈ nodes x) (hi : iW y = iW f) (hk : keyOf y = keyOf f) (ha : mQ y = true) (h1 : iC y = []) (h2 : fB y = []) : FT (sub y x) := by
 obtain ⟨⟨g1, g2⟩, g3⟩ := h
 have hkey : ∀ z ∈ nodes x, keyOf (sub y z) = keyOf z := fun z hz => by
  by_cases e : iW z = iW y
  ·rw [xV e, hk, alV g3 hz hf (e.trans hi)]
  ·rw [rT e, alE]
 refine ⟨⟨aov h1 h2 _ _ g1, fun q hq => ?_⟩, ?_⟩
 ·rcases afY x hq with hq | ⟨m, hm, _, rfl⟩
  ·have hq : q ∈ [y] := by rw [mF, h1, h2] at hq; simpa using hq
   rw [List.mem_singleton.1 hq]; exact ha
  ·rw [af2]
   ·exact g2 m hm
   ·rw [List.map_map]
    exact List.map_congr_left fun z hz => hkey z (H8 x hm z (iD.2 (.inr (.inl ⟨z, hz, mP z⟩))))
   ·rw [List.map_map]
    exact List.map_congr_left fun z hz => hkey z (H8 x hm z (iD.2 (.inr (.inr ⟨z, hz, mP z⟩))))
 ·obtain ⟨k, hkk⟩ := List.mem_iff_getElem?.1 hf
  obtain ⟨A, B, e1, _, e2⟩ := RU (y := y) x k f g3 hkk hi
  have hny : nums y = [iW f] := by rw [kE, h1, h2, hi]; rfl
  rw [e2, hny]
  rw [e1] at g3
  obtain ⟨n1, n2, n3⟩ := List.nodup_append.1 g3
  obtain ⟨n4, n5, n6⟩ := List.nodup_append.1 n1
  have hin : iW f ∈ nums f := Co (mP f)
  refine List.nodup_append.2 ⟨List.nodup_append.2 ⟨n4, by simp, fun z hz w hw => ?_⟩, n2, fun z hz w hw => ?_⟩
  ·rw [List.mem_singleton.1 hw]; exact n6 z hz _ hin
  ·rcases List.mem_append.1 hz with hz | hz
   ·exact n3 z (List.mem_append_left _ hz) w hw
   ·rw [List.mem_singleton.1 hz]; exact n3 _ (List.mem_append_right _ hin) w hw
theorem Sq (x : Inst) (a : Nat) (hx : OKI x) (ha : a < 256) (hb : mg (jO x) ≤ 1048576) : ∃ fu, P3 fu x (a : Int) = some true := by
 obtain ⟨N, hN⟩ : ∃ N, N = SizeOf.sizeOf x := ⟨_, rfl⟩
 have hf := aoO N x (by omega) hx
 refine ⟨20 * N + 100, ?_⟩
 obtain ⟨b, Cm⟩ := aoN hf (n := 20 * N + 100) (by omega)
 obtain ⟨c, hc9, hc⟩ := aak hf (n := 20 * N + 100) (by omega)
 cases b with
 | true => exact early Cm hc9 (.inl rfl)
 | false =>
 cases c with
 | false => exact early Cm hc9 (.inr rfl)
 | true =>
  have hm := hc.1 rfl
  have hlenx : (nodes x).length ≤ 1048576 := Nat.le_trans (acR x) hb
  have hpos : 0 < (nodes x).length := by rw [mF]; simp
  have h10 := acP hf hm (n := 20 * N + 100) (by omega) (by omega)
  obtain ⟨k, hkd⟩ : ∃ k, k = a % (nodes x).length := ⟨_, rfl⟩
  have aAl : k < (nodes x).length := by rw [hkd]; exact Nat.mod_lt _ hpos
  obtain ⟨f0, hf0⟩ : ∃ f0, (nodes x)[k]? = some f0 := ⟨_, List.getElem?_eq_getElem aAl⟩
  have hmem := List.mem_of_getElem? hf0
  have ff : jH N (fF f0) := afc N f0 (af3 x hf hmem)
  have hid : 0 < iW f0 := zR (hm.1.2 f0 hmem)
  have hne : iW (fF f0) ≠ 0 := by rw [uH]; omega
  have aAm : iW (KE (fF f0)) ≠ 0 := by rw [aap]; exact hne
  obtain ⟨hz, fz⟩ := Xl hf (ayP (fF f0)) hm aAm (n := 20 * N + 100) (by omega)
  obtain ⟨hw1, fw1⟩ := Xl hf ff hm hne (n := 20 * N + 100) (by omega)
  have e1 : fF (sub (fF f0) x) = fF x := by rw [Xk, Lu, ← Xk, sub_self x hm.2 hmem]
  have e0 : fF (sub (KE (fF f0)) x) = fF (fF (sub (KE (fF f0)) x)) := (Lu _).symm
  have hmz : FT (fF (sub (KE (fF f0)) x)) := aao (af4 hm hmem (by rw [aap, uH]) (by rw [ayO, aah]) (aoP (by rw [uH]; exact hid)) (alU _) (afj _))
  obtain ⟨hw2, fw2⟩ := Xl fz ff hmz hne (n := 20 * N + 100) (by omega)
  have e2 : fF (sub (fF f0) (fF (sub (KE (fF f0)) x))) = fF x := by
   rw [Xk, Lu, Lu, ← Xk, sub_sub (by rw [aap, uH]), sub_self x hm.2 hmem]
  have hs1 := alD _ (20 * N + 100) _ x fw1 (by rw [e1, Lu]) (by omega)
  have hs2 := alD _ (20 * N + 100) _ x fw2 (by rw [e2, Lu]) (by omega)
  obtain ⟨c2, hc2, hcc⟩ := aak fz (n := 20 * N + 100) (by omega)
  have hct : c2 = true := hcc.2 hmz
  subst hct
  obtain ⟨A, B, n1, n2, n3⟩ := RU (y := KE (fF f0)) x k f0 hm.2 hf0 (by rw [aap, uH])
  rw [avR, uH] at n3
  have alW : ∀ y : Inst, (nums y).length = (nodes y).length := fun y => by rw [nums, List.length_map]
  have lx := congrArg List.length n1
  simp only [List.length_append, alW] at lx
  have lz := congrArg List.length n3
  simp only [List.length_append, alW, List.length_cons, List.length_nil] at lz
  have hf1 : 0 < (nodes f0).length := by rw [mF]; simp
  have hlf := acP ff (aao (acS hm hmem)) (n := 20 * N + 100) (by omega) (by rw [uo, List.length_map]; omega)
  have hlz := acP fz hmz (n := 20 * N + 100) (by omega) (by rw [uo, List.length_map]; omega)
  have hln : ∀ y : Inst, ln ((nodes y).map fF) = ((nodes y).length : Int) := fun y => by simp [ln]
  have wg : gD (((nodes f0).length : Int) - 1) = (((nodes f0).length - 1 : Nat) : Int) := by rw [wE (by omega) (by omega)]; omega
  have lnf : ln ((nodes (fF f0)).map fF) = ((nodes f0).length : Int) := by simp [ln, uo]
  have lnz : ln ((nodes (fF (sub (KE (fF f0)) x))).map fF) = (((nodes (sub (KE (fF f0)) x)).length : Nat) : Int) := by simp [ln, uo]
  have hmod : Int.tmod (gD (a : Int)) (ln ((nodes x).map fF)) = (k : Int) := by
   rw [wE (by omega) (by omega), hln, hkd]
   exact (Int.ofNat_tmod a (nodes x).length)
  have hget : ∀ (y : Inst) (i : Nat) (q : Inst), ((nodes y).map fF)[i]? = some q → (nums y)[i]? = some (iW q) := fun y i q h => by
   rw [List.getElem?_map] at h
   obtain ⟨r, hr, rfl⟩ := Option.map_eq_some_iff.1 h
   rw [nums, List.getElem?_map, hr, uH]; rfl
  refine steps (i := (((nodes (sub (KE (fF f0)) x)).length : Nat) : Int)) Cm hc9 h10 hmod (by rw [hln]; exact beq_false_of_ne (by omega)) (by rw [UW, List.getElem?_map, hf0]; rfl) hz hw1 hs1 hw2 hs2 hc2 hlf hlz ?_ ?_
  ·rw [lnz, hln, lnf, wg, wE (by omega) (by omega)]
   simp only [beq_iff_eq]
   omega
  ·refine ada (f := TH (20 * N + 100) (a : Int) ((nodes x).map fF) ((nodes (fF f0)).map fF) ((nodes (fF (sub (KE (fF f0)) x))).map fF)) (fun (_ : Unit) k => ((k : Nat) : Int)) (nodes (sub (KE (fF f0)) x)).length (fun _ => ()) (fun i hi => ?_) ?_
   ·have hlen1 : i < ((nodes (fF (sub (KE (fF f0)) x))).map fF).length := by rw [List.length_map, uo, List.length_map]; exact hi
    obtain ⟨q1, hq1⟩ : ∃ q, ((nodes (fF (sub (KE (fF f0)) x))).map fF)[i]? = some q := ⟨_, List.getElem?_eq_getElem hlen1⟩
    have hd1 := hget _ _ _ hq1
    rw [aff, n3] at hd1
    have ayQ : ∃ j : Nat, (bif decide ((k : Int) < (i : Int)) then some (gD ((i : Int) + (((nodes f0).length - 1 : Nat) : Int))) else some (i : Int)) = some (j : Int) ∧ j < (nodes x).length ∧ (nums x)[j]? = some (iW q1) := by
     by_cases hki : k < i
     ·refine ⟨i + ((nodes f0).length - 1), ?_, by omega, ?_⟩
      ·rw [decide_eq_true (by omega), wE (by omega) (by omega)]; rfl
      ·rw [n1, List.getElem?_append_right (by rw [List.length_append, alW]; omega)]
       rw [List.getElem?_append_right (by simp only [List.length_append, List.length_cons, List.length_nil]; omega)] at hd1
       rw [← hd1]
       congr 1
       simp only [List.length_append, List.length_cons, List.length_nil, alW]
       omega
     ·refine ⟨i, by rw [decide_eq_false (by omega)]; rfl, by omega, ?_⟩
      rw [n1, List.getElem?_append_left (by rw [List.length_append, alW]; omega)]
      rw [List.getElem?_append_left (by simp only [List.length_append, List.length_cons, List.length_nil]; omega)] at hd1
      by_cases hik : i < k
      ·rw [List.getElem?_append_left (by omega)] at hd1 ⊢
       exact hd1
      ·have : i = A.length := by omega
       subst this
       rw [List.getElem?_append_right (Nat.le_refl _)] at hd1 ⊢
       rw [Nat.sub_self] at hd1 ⊢
       rw [kE]
       simpa using hd1
    obtain ⟨j, hj1, hj2, hj3⟩ := ayQ
    have Ir : j < ((nodes x).map fF).length := by rw [List.length_map]; exact hj2
    obtain ⟨q2, hq2⟩ : ∃ q, ((nodes x).map fF)[j]? = some q := ⟨_, List.getElem?_eq_getElem Ir⟩
    have hd2 := hget _ _ _ hq2
    rw [hj3] at hd2
    have hd2 := Option.some.inj hd2
    have hlt := uQ hlen1
    rw [← UW] at hq1 hq2
    have hjj := hj1
    unfold TH
    dsimp only
    rw [hlt, hmod, lnf, wg]
    simp only [cond_true]
    rw [hj1]
    obtain ⟨_, ⟨_, _, _, ⟨_, _, _, ⟨_, _⟩, ⟨_, _⟩, _, _, _⟩⟩, ⟨_, _⟩, ⟨_, _⟩, ⟨_, _⟩, _, _, _, ⟨_, _, _, ⟨_, _⟩, ⟨_, _⟩, _, _, _⟩, _, _, ⟨_, _⟩, _, _⟩ := q1
    obtain ⟨_, ⟨_, _, _, ⟨_, _, _, ⟨_, _⟩, ⟨_, _⟩, _, _, _⟩⟩, ⟨_, _⟩, ⟨_, _⟩, ⟨_, _⟩, _, _, _, ⟨_, _, _, ⟨_, _⟩, ⟨_, _⟩, _, _, _⟩, _, _, ⟨_, _⟩, _, _⟩ := q2
    simp only [Option.bind_some, hq1, hq2]
    simp only [iW] at hd2
    subst hd2
    simp only [beq_self_eq_true, Bool.not_true, cond_false, tu (show i < 9223372036854775807 by omega)]
   ·have hlen1 : ((nodes (fF (sub (KE (fF f0)) x))).map fF).length = (nodes (sub (KE (fF f0)) x)).length := by rw [List.length_map, uo, List.length_map]
    unfold TH
    dsimp only
    rw [← hlen1, tC]
    rfl
set_option maxHeartbeats 4000000 in
theorem aAn (ls : List (List D)) (h : WTs tab [34, 5] ls) (hb : jA ls ≤ 1048576) : call S 3 (Ou tab [34, 5] ls) [] = some (.d (.bool true), []) := by
 obtain ⟨l1, _, rfl, h1, l2, _, rfl, h2, rfl⟩ := h
 obtain ⟨x, rfl⟩ := ayz h1
 obtain ⟨a, rfl, ha⟩ := h2.qy afR
 simp only [jA, mg, I6] at hb
 have ha : 0 ≤ a ∧ a ≤ 255 := by simpa [Lit.wf, show IntKind.u8.min = 0 from rfl, show IntKind.u8.max = 255 from rfl] using ha
 obtain ⟨m, rfl⟩ : ∃ m : Nat, a = (m : Int) := ⟨a.toNat, by omega⟩
 obtain ⟨fu, hp⟩ := Sq x m h1 (by omega) (by omega)
 refine amk (ok3 rfl rfl hp ?_ [])
 obtain ⟨_, ⟨_, _, _, ⟨_, _, _, ⟨_, _⟩, ⟨_, _⟩, _, _, _⟩⟩, ⟨_, _⟩, ⟨_, _⟩, ⟨_, _⟩, _, _, _, ⟨_, _, _, ⟨_, _⟩, ⟨_, _⟩, _, _, _⟩, _, _, ⟨_, _⟩, _, _⟩ := x
 rfl
end Go.Proofs.Ytedfkehkcaaplaa
