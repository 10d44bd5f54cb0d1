/- T -/
import Derived.Test.YtedfkehkcaaplaaTFL2
namespace Go.Proofs.Ytedfkehkcaaplaa
open Go Go.X
set_option linter.unusedVariables false
set_option maxRecDepth 100000
def iE {A : Type} (p : A → Option Int) (c : Int → Bool) (l : List A) : (Int × Int) → Option ((Int × Int) ⊕ (Int × Int))
 | (s, i) => (bif decide (i < ln l) then some (c s) else some false).bind fun q => bif q then (idx l i).bind fun x => (p x).bind fun r => some (.inl (dS (s + r), dS (i + 1))) else some (.inr (s, i))
theorem jm {A : Type} {p : A → Option Int} {c : Int → Bool} {l : List A} (hl : l.length ≤ 8796093022208) (h : ∀ x ∈ l, ∃ r, p x = some r) (a : Int) : ∃ q, wl (iE p c l) (a, 0) = some q := by
 refine X3 l.length (by omega) (fun s k hk => ?_) a
 unfold iE
 dsimp only
 by_cases hlt : k < l.length
 ·rw [kK hlt]
  simp only [cond_true, Option.bind_some]
  cases c s with
  | false => exact .inl ⟨_, rfl⟩
  | true =>
   right
   refine ⟨hlt, ?_⟩
   obtain ⟨r, hr⟩ := h l[k] (List.getElem_mem hlt)
   simp only [cond_true, iM l k hlt, Option.bind_some, hr]
   exact ⟨_, rfl⟩
 ·have : k = l.length := by omega
  subst this
  rw [lW]
  exact .inl ⟨_, rfl⟩
abbrev jI : Int → Bool := fun s => decide (s ≤ 1048576)
theorem adr (fu : Nat) (p : Value → Option Int) (l : List Value) : Jc fu p l = iE p (jI) l := by
 funext q
 obtain ⟨s, i⟩ := q
 unfold Jc iE jI
 dsimp only
 cases decide (i < ln l) with
 | false => rfl
 | true =>
  simp only [cond_true, Option.bind_some]
  cases decide (s ≤ 1048576) with
  | false => rfl
  | true =>
   cases idx l i with
   | none => rfl
   | some x => obtain ⟨_, _, _, ⟨_, _⟩, ⟨_, _⟩, _, _, _⟩ := x; rfl
theorem ads (fu : Nat) (p : Field → Option Int) (l : List Field) : Jd fu p l = iE p (jI) l := by
 funext q
 obtain ⟨s, i⟩ := q
 unfold Jd iE jI
 dsimp only
 cases decide (i < ln l) with
 | false => rfl
 | true =>
  simp only [cond_true, Option.bind_some]
  cases decide (s ≤ 1048576) with
  | false => rfl
  | true =>
   cases idx l i with
   | none => rfl
   | some x => obtain ⟨_, ⟨_, _, _, ⟨_, _⟩, ⟨_, _⟩, _, _, _⟩⟩ := x; rfl
theorem adt (fu : Nat) (l : List ByteArray) : Je fu l = iE (fun x => some (x.size : Int)) jI l := by
 funext q
 obtain ⟨s, i⟩ := q
 rfl
theorem adu (fu : Nat) (p : Expr → Option Int) (l : List Expr) : BJ fu p l = iE p (jI) l := by
 funext q
 obtain ⟨s, i⟩ := q
 unfold BJ iE jI
 dsimp only
 cases decide (i < ln l) with
 | false => rfl
 | true =>
  simp only [cond_true, Option.bind_some]
  cases decide (s ≤ 1048576) with
  | false => rfl
  | true =>
   cases idx l i with
   | none => rfl
   | some x => obtain ⟨_, _, _, ⟨_, _⟩, ⟨_, _⟩, ⟨_, _⟩, _, ⟨_, _⟩, ⟨_, _⟩, _⟩ := x; rfl
theorem adv (fu : Nat) (p : Act → Option Int) (l : List Act) : Jf fu p l = iE p (jI) l := by
 funext q
 obtain ⟨s, i⟩ := q
 unfold Jf iE jI
 dsimp only
 cases decide (i < ln l) with
 | false => rfl
 | true =>
  simp only [cond_true, Option.bind_some]
  cases decide (s ≤ 1048576) with
  | false => rfl
  | true =>
   cases idx l i with
   | none => rfl
   | some x => obtain ⟨_, _, ⟨_, _, _, ⟨_, _⟩, ⟨_, _⟩, ⟨_, _⟩, _, ⟨_, _⟩, ⟨_, _⟩, _⟩⟩ := x; rfl
theorem adw (fu : Nat) (l : List Cell) : Jg fu l = iE (P71 fu) (jI) l := by
 funext q
 obtain ⟨s, i⟩ := q
 unfold Jg iE jI
 dsimp only
 cases decide (i < ln l) with
 | false => rfl
 | true =>
  simp only [cond_true, Option.bind_some]
  cases decide (s ≤ 1048576) with
  | false => rfl
  | true =>
   cases idx l i with
   | none => rfl
   | some x => obtain ⟨_, _, ⟨_, _, _, ⟨_, _⟩, ⟨_, _⟩, _, _, _⟩, ⟨_, _, _, ⟨_, _⟩, ⟨_, _⟩, _, _, _⟩, ⟨_, _⟩, ⟨_, _⟩, ⟨_, _⟩, ⟨_, _⟩, _, _, ⟨_, _⟩, ⟨_, _⟩⟩ := x; rfl
theorem aas (fu : Nat) (l : List Child) : Jh fu l = iE (YQ fu) (jI) l := by
 funext q
 obtain ⟨s, i⟩ := q
 unfold Jh iE jI
 dsimp only
 cases decide (i < ln l) with
 | false => rfl
 | true =>
  simp only [cond_true, Option.bind_some]
  cases decide (s ≤ 1048576) with
  | false => rfl
  | true =>
   cases idx l i with
   | none => rfl
   | some x => obtain ⟨_, _, _, ⟨_, _, _, ⟨_, _⟩, ⟨_, _⟩, _, _, _⟩⟩ := x; rfl
theorem adx (fu : Nat) (p : Inst → Option Int) (l : List Inst) : Ji fu p l = iE p (jI) l := by
 funext q
 obtain ⟨s, i⟩ := q
 unfold Ji iE jI
 dsimp only
 cases decide (i < ln l) with
 | false => rfl
 | true =>
  simp only [cond_true, Option.bind_some]
  cases decide (s ≤ 1048576) with
  | false => rfl
  | true =>
   cases idx l i with
   | none => rfl
   | some x => obtain ⟨_, ⟨_, _, _, ⟨_, _, _, ⟨_, _⟩, ⟨_, _⟩, _, _, _⟩⟩, ⟨_, _⟩, ⟨_, _⟩, ⟨_, _⟩, _, _, _, ⟨_, _, _, ⟨_, _⟩, ⟨_, _⟩, _, _, _⟩, _, _, ⟨_, _⟩, _, _⟩ := x; rfl
theorem ady (fu : Nat) (p : Inst → Int → Option Int) (l : List Inst) (a : Int) : Eh fu p l a = iE (fun x => p x (dS (a + 1))) (fun s => decide (s < 1048576)) l := by
 funext q
 obtain ⟨s, i⟩ := q
 unfold Eh iE
 dsimp only
 cases decide (i < ln l) with
 | false => rfl
 | true =>
  simp only [cond_true, Option.bind_some]
  cases decide (s < 1048576) with
  | false => rfl
  | true =>
   cases idx l i with
   | none => rfl
   | some x => obtain ⟨_, ⟨_, _, _, ⟨_, _, _, ⟨_, _⟩, ⟨_, _⟩, _, _, _⟩⟩, ⟨_, _⟩, ⟨_, _⟩, ⟨_, _⟩, _, _, _, ⟨_, _, _, ⟨_, _⟩, ⟨_, _⟩, _, _, _⟩, _, _, ⟨_, _⟩, _, _⟩ := x; rfl
theorem adz (fu : Nat) (p : Inst → Int → Option Int) (l : List Inst) (a : Int) : Ei fu p l a = iE (fun x => p x (dS (a + 1))) (fun s => decide (s < 1048576)) l := by
 funext q
 obtain ⟨s, i⟩ := q
 unfold Ei iE
 dsimp only
 cases decide (i < ln l) with
 | false => rfl
 | true =>
  simp only [cond_true, Option.bind_some]
  cases decide (s < 1048576) with
  | false => rfl
  | true =>
   cases idx l i with
   | none => rfl
   | some x => obtain ⟨_, ⟨_, _, _, ⟨_, _, _, ⟨_, _⟩, ⟨_, _⟩, _, _, _⟩⟩, ⟨_, _⟩, ⟨_, _⟩, ⟨_, _⟩, _, _, _, ⟨_, _, _, ⟨_, _⟩, ⟨_, _⟩, _, _, _⟩, _, _, ⟨_, _⟩, _, _⟩ := x; rfl
theorem abj {n : Nat} {l : List Value} {x : Option (List Value)} (h1 : l.length * 112 ≤ reachBytes) (h : ∀ v ∈ l, ∃ r, PY n v = some r) : ∃ r, Xl (n + 1) ⟨l, x⟩ = some r := by
 obtain ⟨q, hq⟩ := jm (c := jI) (bH (by omega) h1) h (ln l)
 rw [Xl.eq_2]
 unfold YN
 dsimp only
 rw [adr, hq]
 exact ⟨_, rfl⟩
theorem abk {n : Nat} {l : List Field} {x : Option (List Field)} (h1 : l.length * 128 ≤ reachBytes) (h : ∀ v ∈ l, ∃ r, YP n v = some r) : ∃ r, Vn (n + 1) ⟨l, x⟩ = some r := by
 obtain ⟨q, hq⟩ := jm (c := jI) (bH (by omega) h1) h (ln l)
 rw [Vn.eq_2]
 unfold YO
 dsimp only
 rw [ads, hq]
 exact ⟨_, rfl⟩
theorem WO {n : Nat} {l : List Expr} {x : Option (List Expr)} (h1 : l.length * 176 ≤ reachBytes) (h : ∀ v ∈ l, ∃ r, Fa n v = some r) : ∃ r, Ot (n + 1) ⟨l, x⟩ = some r := by
 obtain ⟨q, hq⟩ := jm (c := jI) (bH (by omega) h1) h (ln l)
 rw [Ot.eq_2]
 unfold P6
 dsimp only
 rw [adu, hq]
 exact ⟨_, rfl⟩
theorem abl {n : Nat} {l : List Act} {x : Option (List Act)} (h1 : l.length * 200 ≤ reachBytes) (h : ∀ v ∈ l, ∃ r, Mi n v = some r) : ∃ r, Sk (n + 1) ⟨l, x⟩ = some r := by
 obtain ⟨q, hq⟩ := jm (c := jI) (bH (by omega) h1) h (ln l)
 rw [Sk.eq_2]
 unfold YR
 dsimp only
 rw [adv, hq]
 exact ⟨_, rfl⟩
theorem abm {n : Nat} {l : List Inst} {x : Option (List Inst)} (h1 : l.length * 416 ≤ reachBytes) (h : ∀ v ∈ l, ∃ r, P16 n v = some r) : ∃ r, P48 (n + 1) ⟨l, x⟩ = some r := by
 obtain ⟨q, hq⟩ := jm (c := jI) (bH (by omega) h1) h (ln l)
 rw [P48.eq_2]
 unfold YT
 dsimp only
 rw [adx, hq]
 exact ⟨_, rfl⟩
theorem Pf : ∀ (N n : Nat) (v : Value), Fit N v → 3 * N ≤ n → ∃ r, PY n v = some r := by
 intro N
 induction N with
 | zero => intro n v h; exact absurd h (by obtain ⟨_, _, _, ⟨_, _⟩, ⟨_, _⟩, _, _, _⟩ := v; simp [Fit])
 | succ N ih =>
  intro n v h hn
  obtain ⟨n', rfl⟩ : ∃ n', n = n' + 3 := ⟨n - 3, by omega⟩
  obtain ⟨k, nn, s, ⟨l, x⟩, ⟨f, y⟩, e, c, b⟩ := v
  obtain ⟨⟨p1, p2⟩, p3, p4⟩ := h
  obtain ⟨r1, g1⟩ := abj (n := n' + 1) (x := x) p1 fun v hv => ih (n' + 1) v (p2 v hv) (by omega)
  obtain ⟨r2, g2⟩ := abk (n := n' + 1) (x := y) p3 fun q hq => by
   have := p4 q hq
   obtain ⟨m, v⟩ := q
   obtain ⟨r, hr⟩ := ih n' v this (by omega)
   obtain ⟨_, _, _, ⟨_, _⟩, ⟨_, _⟩, _, _, _⟩ := v
   rw [YP.eq_2]
   unfold Vm
   dsimp only
   rw [hr]
   simp only [Option.bind_some, dY]
   exact ⟨_, rfl⟩
  rw [PY.eq_2]
  unfold YM
  dsimp only
  rw [g1, g2]
  simp only [Option.bind_some, dY]
  exact ⟨_, rfl⟩
theorem ahz {N n : Nat} {q : Field} (h : Bn (Fit N) q) (hn : 3 * N + 1 ≤ n) : ∃ r, YP n q = some r := by
 obtain ⟨n', rfl⟩ : ∃ n', n = n' + 1 := ⟨n - 1, by omega⟩
 obtain ⟨m, v⟩ := q
 obtain ⟨r, hr⟩ := Pf N n' v h (by omega)
 obtain ⟨_, _, _, ⟨_, _⟩, ⟨_, _⟩, _, _, _⟩ := v
 rw [YP.eq_2]
 unfold Vm
 dsimp only
 rw [hr]
 simp only [Option.bind_some, dY]
 exact ⟨_, rfl⟩
theorem af0 {n : Nat} {l : List ByteArray} {x : Option (List ByteArray)} (h1 : l.length * 16 ≤ reachBytes) : ∃ r, Vo n ⟨l, x⟩ = some r := by
 obtain ⟨q, hq⟩ := jm (p := fun x : ByteArray => some (x.size : Int)) (c := jI) (bH (by omega) h1) (fun _ _ => ⟨_, rfl⟩) (ln l)
 unfold Vo
 dsimp only
 rw [adt, hq]
 exact ⟨_, rfl⟩
theorem af2 {n : Nat} {q : Act} (h : Ae (fun e => ∃ r, Fa n e = some r) q) : ∃ r, Mi (n + 1) q = some r := by
 obtain ⟨k, m, e⟩ := q
 obtain ⟨r, hr⟩ : ∃ r, Fa n e = some r := h
 obtain ⟨_, _, _, ⟨_, _⟩, ⟨_, _⟩, ⟨_, _⟩, _, ⟨_, _⟩, ⟨_, _⟩, _⟩ := e
 rw [Mi.eq_2]
 unfold PZ
 dsimp only
 rw [hr]
 simp only [Option.bind_some, dY]
 exact ⟨_, rfl⟩
theorem ahA : ∀ (N n : Nat) (e : Expr), mD N e → 3 * N ≤ n → ∃ r, Fa n e = some r := by
 intro N
 induction N with
 | zero => intro n v h; exact absurd h (by obtain ⟨_, _, _, ⟨_, _⟩, ⟨_, _⟩, ⟨_, _⟩, _, ⟨_, _⟩, ⟨_, _⟩, _⟩ := v; simp [mD])
 | succ N ih =>
  intro n e h hn
  obtain ⟨n', rfl⟩ : ∃ n', n = n' + 3 := ⟨n - 3, by omega⟩
  obtain ⟨k1, n1, s1, ⟨a1, Wj⟩, ⟨ns1, Xq⟩, ⟨v1, Wm⟩, el1, ⟨Z8, Wn⟩, ⟨c1, Wo⟩, t1⟩ := e
  obtain ⟨⟨p1, p2⟩, p3, ⟨p4, p5⟩, ⟨p6, p7⟩, p8, p9⟩ := h
  obtain ⟨r1, g1⟩ := WO (n := n' + 1) (x := Wj) p1 fun e he => ih (n' + 1) e (p2 e he) (by omega)
  obtain ⟨r2, g2⟩ := WO (n := n' + 1) (x := Wm) p4 fun e he => ih (n' + 1) e (p5 e he) (by omega)
  obtain ⟨r3, g3⟩ := WO (n := n' + 1) (x := Wn) p6 fun e he => ih (n' + 1) e (p7 e he) (by omega)
  obtain ⟨r4, g4⟩ := abl (n := n' + 1) (x := Wo) p8 fun q hq => by
   have := p9 q hq
   obtain ⟨k, m, e⟩ := q
   exact af2 (ih n' e this (by omega))
  obtain ⟨r5, g5⟩ := af0 (n := n' + 2) (x := Xq) p3
  rw [Fa.eq_2]
  unfold P5
  dsimp only
  rw [g1, g2, g3, g4, g5]
  simp only [Option.bind_some, dY]
  exact ⟨_, rfl⟩
theorem af3 {N n : Nat} {l : Sl Value} (h : QE N l) (hn : 3 * N + 1 ≤ n) : ∃ r, Xl n l = some r := by
 obtain ⟨n', rfl⟩ : ∃ n', n = n' + 1 := ⟨n - 1, by omega⟩
 obtain ⟨l, x⟩ := l
 exact abj h.1 fun v hv => Pf N n' v (h.2 v hv) (by omega)
theorem abn {N n : Nat} {l : Sl Field} (h : GN N l) (hn : 3 * N + 2 ≤ n) : ∃ r, Vn n l = some r := by
 obtain ⟨n', rfl⟩ : ∃ n', n = n' + 1 := ⟨n - 1, by omega⟩
 obtain ⟨l, x⟩ := l
 exact abk h.1 fun v hv => ahz (h.2 v hv) (by omega)
theorem WQ {N n : Nat} {l : Sl Act} (h : ED N l) (hn : 3 * N + 2 ≤ n) : ∃ r, Sk n l = some r := by
 obtain ⟨n', rfl⟩ : ∃ n', n = n' + 2 := ⟨n - 2, by omega⟩
 obtain ⟨l, x⟩ := l
 refine abl h.1 fun q hq => ?_
 have := h.2 q hq
 obtain ⟨k, m, e⟩ := q
 exact af2 (ahA N n' e this (by omega))
theorem ahB {N n : Nat} {c : Cell} (h : qg N c) (hn : 3 * N + 2 ≤ n) : ∃ r, P71 n c = some r := by
 obtain ⟨k, m, v, u, ds, do_, un, en, r1, r2, od, pa⟩ := c
 obtain ⟨f1, f2, f3, f4, f5, f6, f7, f8⟩ := h
 dsimp only at f1 f2 f3 f4 f5 f6 f7 f8
 obtain ⟨s1, g1⟩ := Pf N n v f1 (by omega)
 obtain ⟨s2, g2⟩ := Pf N n u f2 (by omega)
 obtain ⟨s3, g3⟩ := af3 f3 (n := n) (by omega)
 obtain ⟨s4, g4⟩ := WQ f4 (n := n) (by omega)
 obtain ⟨s5, g5⟩ := WQ f5 (n := n) (by omega)
 obtain ⟨s6, g6⟩ := abn f6 (n := n) (by omega)
 obtain ⟨s7, g7⟩ := WQ f7 (n := n) (by omega)
 obtain ⟨s8, g8⟩ := abn f8 (n := n) (by omega)
 clear f1 f2 f3 f4 f5 f6 f7 f8
 obtain ⟨_, _, _, ⟨_, _⟩, ⟨_, _⟩, _, _, _⟩ := v
 obtain ⟨_, _, _, ⟨_, _⟩, ⟨_, _⟩, _, _, _⟩ := u
 obtain ⟨_, _⟩ := ds
 obtain ⟨_, _⟩ := do_
 obtain ⟨_, _⟩ := un
 obtain ⟨_, _⟩ := en
 obtain ⟨_, _⟩ := od
 obtain ⟨_, _⟩ := pa
 unfold P71
 dsimp only
 rw [g1, g2, g3, g4, g5, g6, g7, g8]
 simp only [Option.bind_some, dY]
 exact ⟨_, rfl⟩
theorem WR {N n : Nat} {c : Child} (h : Fit N c.fV) (hn : 3 * N ≤ n) : ∃ r, YQ n c = some r := by
 obtain ⟨k, d, m, v⟩ := c
 obtain ⟨s1, g1⟩ := Pf N n v h (by omega)
 clear h
 obtain ⟨_, _, _, ⟨_, _⟩, ⟨_, _⟩, _, _, _⟩ := v
 unfold YQ
 dsimp only
 rw [g1]
 simp only [Option.bind_some, dY]
 exact ⟨_, rfl⟩
theorem abo {N n : Nat} {l : List Cell} {x : Option (List Cell)} (h : l.length * 400 ≤ reachBytes ∧ ∀ c ∈ l, qg N c) (hn : 3 * N + 2 ≤ n) : ∃ r, P46 n ⟨l, x⟩ = some r := by
 obtain ⟨q, hq⟩ := jm (p := P71 n) (c := jI) (bH (by omega) h.1) (fun c hc => ahB (h.2 c hc) hn) (ln l)
 unfold P46
 dsimp only
 rw [adw, hq]
 exact ⟨_, rfl⟩
theorem WS {N n : Nat} {l : List Child} {x : Option (List Child)} (h : l.length * 152 ≤ reachBytes ∧ ∀ c ∈ l, Fit N c.fV) (hn : 3 * N ≤ n) : ∃ r, P47 n ⟨l, x⟩ = some r := by
 obtain ⟨q, hq⟩ := jm (p := YQ n) (c := jI) (bH (by omega) h.1) (fun c hc => WR (h.2 c hc) hn) (ln l)
 unfold P47
 dsimp only
 rw [aas, hq]
 exact ⟨_, rfl⟩
theorem ahC : ∀ (N n : Nat) (x : Inst), gJ N x → 3 * N + 2 ≤ n → ∃ r, P16 n x = some r := by
 intro N
 induction N with
 | zero => intro n v h; exact absurd h (by obtain ⟨_, ⟨_, _, _, ⟨_, _, _, ⟨_, _⟩, ⟨_, _⟩, _, _, _⟩⟩, ⟨_, _⟩, ⟨_, _⟩, ⟨_, _⟩, _, _, _, ⟨_, _, _, ⟨_, _⟩, ⟨_, _⟩, _, _, _⟩, _, _, ⟨_, _⟩, _, _⟩ := v; simp [gJ])
 | succ N ih =>
  intro n x h hn
  obtain ⟨n', rfl⟩ : ∃ n', n = n' + 2 := ⟨n - 2, by omega⟩
  obtain ⟨d, c, ⟨s, sx⟩, ⟨o, ox⟩, ⟨k, kx⟩, nd, f, b, e, w, h', ⟨p, px⟩, r, q⟩ := x
  obtain ⟨h1, h2, h3, h6, h4, h5⟩ := h
  obtain ⟨s1, g1⟩ := WR h1 (n := n' + 1) (by omega)
  obtain ⟨s2, g2⟩ := abo (x := sx) h2 (n := n' + 1) (by omega)
  obtain ⟨s3, g3⟩ := WS (x := ox) h3 (n := n' + 1) (by omega)
  obtain ⟨s4, g4⟩ := Pf N (n' + 1) e h6 (by omega)
  obtain ⟨s5, g5⟩ := abm (n := n') (x := kx) h4.1 fun v hv => ih n' v (h4.2 v hv) (by omega)
  obtain ⟨s6, g6⟩ := abm (n := n') (x := px) h5.1 fun v hv => ih n' v (h5.2 v hv) (by omega)
  clear h1 h2 h3 h4 h5 h6
  obtain ⟨_, _, _, ⟨_, _, _, ⟨_, _⟩, ⟨_, _⟩, _, _, _⟩⟩ := c
  obtain ⟨_, _, _, ⟨_, _⟩, ⟨_, _⟩, _, _, _⟩ := e
  rw [P16.eq_2]
  unfold YS
  dsimp only
  rw [g1, g2, g3, g4, g5, g6]
  simp only [Option.bind_some, dY]
  exact ⟨_, rfl⟩
theorem ahD : ∀ (N n : Nat) (x : Inst) (a : Int), gJ N x → 4 * N + 2 ≤ n → ∃ r, P24 n x a = some r := by
 intro N
 induction N with
 | zero => intro n v a h; exact absurd h (by obtain ⟨_, ⟨_, _, _, ⟨_, _, _, ⟨_, _⟩, ⟨_, _⟩, _, _, _⟩⟩, ⟨_, _⟩, ⟨_, _⟩, ⟨_, _⟩, _, _, _, ⟨_, _, _, ⟨_, _⟩, ⟨_, _⟩, _, _, _⟩, _, _, ⟨_, _⟩, _, _⟩ := v; simp [gJ])
 | succ N ih =>
  intro n x a h hn
  obtain ⟨n', rfl⟩ : ∃ n', n = n' + 1 := ⟨n - 1, by omega⟩
  obtain ⟨d, c, ⟨s, sx⟩, ⟨o, ox⟩, ⟨k, kx⟩, nd, f, b, e, w, h', ⟨p, px⟩, r, q⟩ := x
  obtain ⟨h1, h2, h3, h6, h4, h5⟩ := h
  obtain ⟨s1, g1⟩ := WR h1 (n := n') (by omega)
  obtain ⟨s2, g2⟩ := abo (x := sx) h2 (n := n') (by omega)
  obtain ⟨s3, g3⟩ := WS (x := ox) h3 (n := n') (by omega)
  obtain ⟨s4, g4⟩ := Pf N n' e h6 (by omega)
  have g5 : ∀ b, ∃ q, wl (Eh n' (P24 n') k a) (b, 0) = some q := fun b => by
   rw [ady]
   exact jm (bH (by omega) h4.1) (fun v hv => ih n' v _ (h4.2 v hv) (by omega)) b
  have g6 : ∀ b, ∃ q, wl (Ei n' (P24 n') p a) (b, 0) = some q := fun b => by
   rw [adz]
   exact jm (bH (by omega) h5.1) (fun v hv => ih n' v _ (h5.2 v hv) (by omega)) b
  clear h1 h2 h3 h4 h5 h6
  obtain ⟨_, _, _, ⟨_, _, _, ⟨_, _⟩, ⟨_, _⟩, _, _, _⟩⟩ := c
  obtain ⟨_, _, _, ⟨_, _⟩, ⟨_, _⟩, _, _, _⟩ := e
  rw [P24.eq_2]
  unfold YU
  dsimp only
  rw [g1, g2, g3, g4]
  simp only [Option.bind_some]
  refine QB (g5 _) fun q => ?_
  obtain ⟨q1, q2⟩ := q
  refine QB (g6 _) fun q => ?_
  obtain ⟨q1, q2⟩ := q
  exact ⟨_, rfl⟩
theorem aat (fu : Nat) (l : List Int) (x : Option (List Int)) (hl : l.length ≤ 9223372036854775807) : ∃ r, P23 fu ⟨l, x⟩ = some r := by
 obtain ⟨q, hq⟩ : ∃ q, wl (Ef fu l) (false, 0, 0) = some q := by
  obtain ⟨b, h1, _⟩ := vO (f := Ef fu l) (fun a => ∃ k : Nat, a.2.2 = (k : Int) ∧ k ≤ l.length) (fun a => l.length - a.2.2.toNat) (fun _ => True) (fun a hI => by
   obtain ⟨b, s, i⟩ := a
   obtain ⟨k, hk0, hk⟩ := hI
   dsimp only at hk0
   subst hk0
   unfold Ef
   dsimp only
   by_cases hlt : k < l.length
   ·have h1 : decide ((k : Int) < ln l) = true := by simp [ln]; omega
    rw [h1, iM l k hlt]
    simp only [cond_true, Option.bind_some]
    cases decide (1048576 < dS (s + l[k])) with
    | true => exact .inr ⟨_, rfl, trivial⟩
    | false =>
     left
     refine ⟨_, rfl, ⟨k + 1, ?_, by omega⟩, ?_⟩
     ·show dS _ = _
      rw [lU (by omega) (by omega)]; rfl
     ·show l.length - (dS _).toNat < l.length - _
      rw [lU (by omega) (by omega)]
      omega
   ·have h1 : decide ((k : Int) < ln l) = false := by simp [ln]; omega
    rw [h1]
    exact .inr ⟨_, rfl, trivial⟩) l.length (false, 0, 0) (by simp) ⟨0, rfl, by omega⟩
  exact ⟨b, h1⟩
 unfold P23
 dsimp only
 rw [hq]
 rcases q with ⟨_, _, _⟩ | ⟨_, _, _⟩ <;> exact ⟨_, rfl⟩
theorem aau {N n : Nat} {x : Inst} (h : gJ N x) (hn : 4 * N + 2 ≤ n) : ∃ r, P8 n x = some r := by
 obtain ⟨s1, g1⟩ := ahC N n x h (by omega)
 obtain ⟨s2, g2⟩ := ahD N n x 1 h hn
 obtain ⟨s3, g3⟩ := aat n [s1] (some []) (by simp)
 clear h
 obtain ⟨_, ⟨_, _, _, ⟨_, _, _, ⟨_, _⟩, ⟨_, _⟩, _, _, _⟩⟩, ⟨_, _⟩, ⟨_, _⟩, ⟨_, _⟩, _, _, _, ⟨_, _, _, ⟨_, _⟩, ⟨_, _⟩, _, _, _⟩, _, _, ⟨_, _⟩, _, _⟩ := x
 unfold P8
 dsimp only
 simp only [g1, g2, g3, Option.bind_some, dY]
 exact ⟨_, rfl⟩
def OKI (x : Inst) : Prop := WT tab 34 (gG x)
def adA (x : Child) : Prop := WT tab 29 (dU x)
theorem EJ (w : Value) : (dM w).length = 8 := by obtain ⟨_, _, _, ⟨_, _⟩, ⟨_, _⟩, _, _, _⟩ := w; rfl
theorem WU (w : Child) : (dU w).length = 11 := by obtain ⟨_, _, _, v⟩ := w; simp only [dU, List.length_append, List.length_cons, List.length_nil, EJ]
theorem WV {N : Nat} {c : Cell} (h : OKC c) (hs : SizeOf.sizeOf c ≤ N) : qg N c := by
 obtain ⟨k, nm, v, nx, ⟨dl, dx⟩, ⟨ol, ox⟩, ⟨ul, ux⟩, ⟨el, ex⟩, r, q, ⟨pl, px⟩, ⟨tl, tx⟩⟩ := c
 simp only [Cell.mk.sizeOf_spec, Sl.mk.sizeOf_spec] at hs
 obtain ⟨a0, _, e0, h0, a1, _, e1, h1, a2, _, e2, h2, a3, _, e3, h3, a4, _, e4, h4, a5, _, e5, h5, a6, _, e6, h6, a7, _, e7, h7, a8, _, e8, h8, a9, _, e9, h9, a10, _, e10, h10, a11, _, e11, h11, e12⟩ := h.sJ GH rfl
 obtain ⟨_, rfl, _⟩ := h0.mX GI
 obtain ⟨_, rfl, _⟩ := h1.pX zV
 obtain ⟨v', rfl⟩ := VY h2
 obtain ⟨nx', rfl⟩ := VY h3
 obtain ⟨r4, q4, rfl, _⟩ := h4.dz AV
 obtain ⟨r5, q5, rfl, _⟩ := h5.dz wE
 obtain ⟨r6, q6, rfl, _⟩ := h6.dz wE
 obtain ⟨r7, q7, rfl, _⟩ := h7.dz za
 obtain ⟨_, rfl⟩ := h8.oK Bl
 obtain ⟨_, rfl⟩ := h9.oK Bl
 obtain ⟨YX, q10, rfl, _⟩ := h10.dz wE
 obtain ⟨MQ, q11, rfl, _⟩ := h11.dz za
 subst e12; subst e11; subst e10; subst e9; subst e8; subst e7; subst e6; subst e5; subst e4; subst e3; subst e2; subst e1
 simp only [gP, List.cons_append, List.nil_append, List.append_assoc, List.cons.injEq] at e0
 obtain ⟨_, _, e0⟩ := e0
 obtain ⟨g2, e0⟩ := List.append_inj e0 (by rw [EJ, EJ])
 obtain ⟨g3, e0⟩ := List.append_inj e0 (by rw [EJ, EJ])
 simp only [List.cons.injEq] at e0
 obtain ⟨g4, g5, g6, g7, _, _, g10, g11, _⟩ := e0
 have h2' : Sv v := by unfold Sv; rw [g2]; exact h2
 have h3' : Sv nx := by unfold Sv; rw [g3]; exact h3
 have as_ : ∀ {l : List Act} {x : Option (List Act)}, (l.length * 200 ≤ reachBytes ∧ ∀ a ∈ l, OKA a) → SizeOf.sizeOf l ≤ N → ED N ⟨l, x⟩ := by
  intro l x h hn
  refine ⟨h.1, fun t ht => ?_⟩
  have h1 := h.2 t ht
  have h2 := List.sizeOf_lt_of_mem ht
  obtain ⟨k, m, e⟩ := t
  simp only [Act.mk.sizeOf_spec] at h2
  exact Z7 N e (by omega) (GL h1)
 have fs_ : ∀ {l : List Field} {x : Option (List Field)}, (l.length * 128 ≤ reachBytes ∧ ∀ a ∈ l, OKF a) → SizeOf.sizeOf l ≤ N → GN N ⟨l, x⟩ := by
  intro l x h hn
  refine ⟨h.1, fun t ht => ?_⟩
  have h1 := h.2 t ht
  have h2 := List.sizeOf_lt_of_mem ht
  obtain ⟨m, e⟩ := t
  simp only [Field.mk.sizeOf_spec] at h2
  exact xw N e (by omega) (GK h1)
 refine ⟨xw N v (by omega) h2', xw N nx (by omega) h3', ?_, as_ (QD g5 h5) (by omega), as_ (QD g6 h6) (by omega), fs_ (abe g7 h7) (by omega), as_ (QD g10 h10) (by omega), fs_ (abe g11 h11) (by omega)⟩
 have hr := afS g4 h4
 exact ⟨hr.1, fun t ht => by
  have hm : t ∈ dl := ht
  have := List.sizeOf_lt_of_mem hm
  exact xw N t (by omega) (hr.2 t hm)⟩
theorem MN {c : Child} (h : adA c) : Sv c.fV := by
 obtain ⟨k, d, m, v⟩ := c
 obtain ⟨a0, _, e0, h0, a1, _, e1, h1, a2, _, e2, h2, a3, _, e3, h3, e4⟩ := h.sJ Gy rfl
 obtain ⟨_, rfl, _⟩ := h0.pX zV
 obtain ⟨_, rfl, _⟩ := h1.mX EA
 obtain ⟨_, rfl, _⟩ := h2.pX zV
 subst e4; subst e3; subst e2; subst e1
 simp only [dU, List.cons_append, List.nil_append, List.append_assoc, List.cons.injEq, List.append_nil] at e0
 obtain ⟨_, _, _, rfl⟩ := e0
 exact h3
theorem abp {l : List Inst} {x : Option (List Inst)} {d : D} (e : fM ⟨l, x⟩ = d) (h : WT tab 32 [d]) : l.length * 416 ≤ reachBytes ∧ ∀ v ∈ l, OKI v := by
 subst e
 obtain ⟨r, q, e, h1, h2, _⟩ := h.dz AX
 simp only [fM, List.cons.injEq, D.sl.injEq] at e
 obtain ⟨⟨rfl, _⟩, _⟩ := e
 rw [iP] at h1 h2
 simp only [List.length_map, List.mem_map, forall_exists_index, and_imp, forall_apply_eq_imp_iff₂, Nat.add_mul] at h1 h2
 exact ⟨by omega, h2⟩
theorem aav : ∀ (N : Nat) (x : Inst), SizeOf.sizeOf x ≤ N → OKI x → gJ N x := by
 intro N
 induction N with
 | zero => intro x h; obtain ⟨_, ⟨_, _, _, ⟨_, _, _, ⟨_, _⟩, ⟨_, _⟩, _, _, _⟩⟩, ⟨_, _⟩, ⟨_, _⟩, ⟨_, _⟩, _, _, _, ⟨_, _, _, ⟨_, _⟩, ⟨_, _⟩, _, _, _⟩, _, _, ⟨_, _⟩, _, _⟩ := x; simp only [Inst.mk.sizeOf_spec] at h; omega
 | succ N ih =>
  intro x hx h
  obtain ⟨d, c, ⟨s, sx⟩, ⟨o, ox⟩, ⟨k, kx⟩, n, f, b, e, w, h', ⟨p, px⟩, r, q⟩ := x
  obtain ⟨a0, _, e0, h0, a1, _, e1, h1, a2, _, e2, h2, a3, _, e3, h3, a4, _, e4, h4, a5, _, e5, h5, a6, _, e6, h6, a7, _, e7, h7, a8, _, e8, h8, a9, _, e9, h9, a10, _, e10, h10, a11, _, e11, h11, a12, _, e12, h12, a13, _, e13, h13, e14⟩ := h.sJ Gx rfl
  obtain ⟨_, rfl, _⟩ := h0.mX OT
  obtain ⟨c', rfl⟩ := afQ h1
  obtain ⟨r2, q2, rfl, l2, m2, _⟩ := h2.dz GD
  obtain ⟨r3, q3, rfl, l3, m3, _⟩ := h3.dz GJ
  obtain ⟨r4, q4, rfl, _⟩ := h4.dz AX
  obtain ⟨_, rfl, _⟩ := h5.mX OT
  obtain ⟨_, rfl⟩ := h6.oK Bl
  obtain ⟨_, rfl⟩ := h7.oK Bl
  obtain ⟨e', rfl⟩ := VY h8
  obtain ⟨_, rfl, _⟩ := h9.pX zV
  obtain ⟨_, rfl⟩ := h10.oK Bl
  obtain ⟨MQ, q11, rfl, _⟩ := h11.dz AX
  obtain ⟨_, rfl⟩ := h12.oK Bl
  obtain ⟨_, rfl⟩ := h13.oK Bl
  subst e14; subst e13; subst e12; subst e11; subst e10; subst e9; subst e8; subst e7; subst e6; subst e5; subst e4; subst e3; subst e2; subst e1
  simp only [gG, List.cons_append, List.nil_append, List.append_assoc, List.cons.injEq] at e0
  obtain ⟨_, e0⟩ := e0
  obtain ⟨g1, e0⟩ := List.append_inj e0 (by rw [WU, WU])
  simp only [List.cons.injEq] at e0
  obtain ⟨g2, g3, g4, _, _, _, e0⟩ := e0
  obtain ⟨g8, e0⟩ := List.append_inj e0 (by rw [EJ, EJ])
  simp only [List.cons.injEq] at e0
  obtain ⟨_, _, g11, _⟩ := e0
  simp only [D.sl.injEq] at g2 g3
  obtain ⟨rfl, _⟩ := g2
  obtain ⟨rfl, _⟩ := g3
  simp only [List.length_map, List.mem_map, forall_exists_index, and_imp, forall_apply_eq_imp_iff₂, Nat.add_mul] at l2 m2 l3 m3
  have k4 := abp g4 h4
  have k11 := abp g11 h11
  simp only [Inst.mk.sizeOf_spec, Sl.mk.sizeOf_spec] at hx
  have hc : adA c := by unfold adA; rw [g1]; exact h1
  have he : Sv e := by unfold Sv; rw [g8]; exact h8
  refine ⟨?_, ⟨by dsimp only; omega, fun x hx => ?_⟩, ⟨by dsimp only; omega, fun x hx => ?_⟩, xw N e (by omega) he, ⟨k4.1, fun x hx => ?_⟩, k11.1, fun x hx => ?_⟩
  ·have := MN hc
   obtain ⟨k, d, m, v⟩ := c
   simp only [Child.mk.sizeOf_spec] at hx
   exact xw N v (by omega) this
  ·have := List.sizeOf_lt_of_mem (show x ∈ s from hx); exact WV (m2 x hx) (by omega)
  ·have h1 := List.sizeOf_lt_of_mem (show x ∈ o from hx)
   have h2 := MN (m3 x hx)
   obtain ⟨k, d, m, v⟩ := x
   simp only [Child.mk.sizeOf_spec] at h1
   exact xw N v (by omega) h2
  ·have := List.sizeOf_lt_of_mem (show x ∈ k from hx); exact ih x (by omega) (k4.2 x hx)
  ·have := List.sizeOf_lt_of_mem (show x ∈ p from hx); exact ih x (by omega) (k11.2 x hx)
theorem GV {l : List Inst} (h : ∀ a ∈ l, (nodes a).length ≤ iL (gG a)) : (l.flatMap nodes).length ≤ fP (l.map gG) := by
 induction l with
 | nil => simp
 | cons a r ih =>
  have h1 := h a (by simp)
  have h2 := ih fun x hx => h x (by simp [hx])
  rw [List.flatMap_cons, List.length_append, List.map_cons, fP]
  omega
theorem Pg : ∀ x : Inst, (nodes x).length ≤ iL (gG x) := by
 refine AY fun x hk hs => ?_
 have h1 := GV hk
 have h2 := GV hs
 rw [kF, List.length_cons, List.length_append]
 obtain ⟨d, c, s, o, ⟨k, kx⟩, n, f, b, e, w, h, ⟨p, px⟩, r, q⟩ := x
 simp only [eB, cK] at h1 h2 ⊢
 simp only [gG, fM, sH, iL, yI, iP]
 omega
theorem low_mono : ∀ (D E : Nat) (x : Inst), D ≤ E → low D x → low E x := by
 intro D
 induction D with
 | zero => intro E x _ h; exact h.elim
 | succ D ih =>
  intro E x hE h
  obtain ⟨E, rfl⟩ : ∃ e, E = e + 1 := ⟨E - 1, by omega⟩
  exact ⟨fun y hy => ih E y (by omega) (h.1 y hy), fun y hy => ih E y (by omega) (h.2 y hy)⟩
theorem WW {q : Inst} : ∀ (D : Nat) (x : Inst), low D x → q ∈ nodes x → low D q := by
 intro D
 induction D with
 | zero => intro x h; exact h.elim
 | succ D ih =>
  intro x h hq
  rcases eD.1 hq with rfl | ⟨y, hy, hq⟩ | ⟨y, hy, hq⟩
  ·exact h
  ·exact low_mono D (D + 1) q (by omega) (ih y (h.1 y hy) hq)
  ·exact low_mono D (D + 1) q (by omega) (ih y (h.2 y hy) hq)
theorem EK {q : Inst} : ∀ x, q ∈ nodes x → ∀ r ∈ nodes q, r ∈ nodes x := by
 refine AY fun x hk hs hq r hr => ?_
 rcases eD.1 hq with rfl | ⟨y, hy, hq⟩ | ⟨y, hy, hq⟩
 ·exact hr
 ·exact eD.2 (.inr (.inl ⟨y, hy, hk y hy hq r hr⟩))
 ·exact eD.2 (.inr (.inr ⟨y, hy, hs y hy hq r hr⟩))
theorem vW {N : Nat} {q : Inst} : ∀ x, gJ N x → q ∈ nodes x → gJ N q := by
 have : ∀ (N : Nat) (x : Inst), gJ N x → q ∈ nodes x → gJ N q := by
  intro N
  induction N with
  | zero => intro v h; exact absurd h (by obtain ⟨_, ⟨_, _, _, ⟨_, _, _, ⟨_, _⟩, ⟨_, _⟩, _, _, _⟩⟩, ⟨_, _⟩, ⟨_, _⟩, ⟨_, _⟩, _, _, _, ⟨_, _, _, ⟨_, _⟩, ⟨_, _⟩, _, _, _⟩, _, _, ⟨_, _⟩, _, _⟩ := v; simp [gJ])
  | succ N ih =>
   intro x h hq
   rcases eD.1 hq with rfl | ⟨y, hy, hq2⟩ | ⟨y, hy, hq2⟩
   ·exact h
   ·obtain ⟨d, c, s, o, ⟨k, kx⟩, n, f, b, e, w, h', ⟨p, px⟩, r, t⟩ := x
    exact GR N (N + 1) q (by omega) (ih y (h.2.2.2.2.1.2 y hy) hq2)
   ·obtain ⟨d, c, s, o, ⟨k, kx⟩, n, f, b, e, w, h', ⟨p, px⟩, r, t⟩ := x
    exact GR N (N + 1) q (by omega) (ih y (h.2.2.2.2.2.2 y hy) hq2)
 exact this N
theorem MO {x : Inst} (h : zi x) : zi (dI x) := by
 obtain ⟨⟨h1, h2⟩, h3⟩ := h
 refine ⟨⟨(ade _ _).2 h1, fun q hq => ?_⟩, by rw [aai]; exact h3⟩
 rw [MH] at hq
 obtain ⟨r, hr, rfl⟩ := List.mem_map.1 hq
 rw [Sg]
 exact h2 r hr
theorem EL {x q : Inst} (h : zi x) (hq : q ∈ nodes x) : zi q := by
 obtain ⟨⟨h1, h2⟩, h3⟩ := h
 refine ⟨⟨WW _ _ h1 hq, fun r hr => h2 r (EK x hq r hr)⟩, ?_⟩
 obtain ⟨k, hk⟩ := List.mem_iff_getElem?.1 hq
 obtain ⟨A, B, e, _⟩ := Ww (y := q) x k q h3 hk rfl
 rw [e] at h3
 exact (List.nodup_append.1 (List.nodup_append.1 h3).1).2.1
theorem WX {x p q : Inst} (h : (nums x).Nodup) (hp : p ∈ nodes x) (hq : q ∈ nodes x) (e : iH p = iH q) : p = q := by
 obtain ⟨i, hi⟩ := List.mem_iff_getElem?.1 hp
 obtain ⟨j, hj⟩ := List.mem_iff_getElem?.1 hq
 have h1 : (nums x)[i]? = some (iH p) := by rw [nums, List.getElem?_map, hi]; rfl
 have h2 : (nums x)[j]? = some (iH q) := by rw [nums, List.getElem?_map, hj]; rfl
 have h3 : i < (nums x).length := (List.getElem?_eq_some_iff.1 h1).1
 have := (List.getElem?_inj (i := i) (j := j) h3 h).1 (by rw [h1, h2, e])
 subst this
 rw [hi] at hj
 cases hj
 rfl
theorem vC {A : Type} {a b : List A} {p : A → A → Option Bool} (hn : a.length ≤ 8796093022208) (hp : ∀ x ∈ a, ∀ y ∈ b, ∃ r, p x y = some r) :
  ∃ r, (bif !(ln a == ln b) then some false else (wl (iN a b p) 0).bind fun q => match q with | .inl _ => some true | .inr _ => some false) = some r := by
 by_cases hl : a.length = b.length
 ·have e : (!(ln a == ln b)) = false := by simp [ln, hl]
  rw [e, cond_false]
  obtain ⟨q, h1, _⟩ := Ue a b p (fun x y => (p x y).getD false) hl (by omega) (fun x hx y hy => by obtain ⟨r, hr⟩ := hp x hx y hy; rw [hr]; rfl)
  rw [h1]
  cases q <;> exact ⟨_, rfl⟩
 ·have e : (!(ln a == ln b)) = true := by simp [ln]; omega
  rw [e, cond_true]
  exact ⟨_, rfl⟩
theorem WY {n : Nat} {l m : List Value} {x y : Option (List Value)} (q1 : l.length * 112 ≤ reachBytes) (h : ∀ u ∈ l, ∀ v ∈ m, ∃ r, Jv n u v = some r) : ∃ r, Qn (n + 1) ⟨l, x⟩ ⟨m, y⟩ = some r := by
 rw [Qn.eq_2]
 simp only [RL, O4]
 exact vC (bH (by omega) q1) h
theorem WZ {n : Nat} {l m : List Field} {x y : Option (List Field)} (q1 : l.length * 128 ≤ reachBytes) (h : ∀ u ∈ l, ∀ v ∈ m, ∃ r, RP n u v = some r) : ∃ r, Oz (n + 1) ⟨l, x⟩ ⟨m, y⟩ = some r := by
 rw [Oz.eq_2]
 simp only [RN, O5]
 exact vC (bH (by omega) q1) h
theorem abq {n : Nat} {a b : Field} (h : Bn (fun u => ∀ v, ∃ r, Jv n u v = some r) a) : ∃ r, RP (n + 1) a b = some r := by
 obtain ⟨m, v⟩ := a
 obtain ⟨m', w⟩ := b
 obtain ⟨r, hr⟩ : ∃ r, Jv n v w = some r := h w
 clear h
 rw [RP.eq_2]
 unfold RO
 obtain ⟨_, _, _, ⟨_, _⟩, ⟨_, _⟩, _, _, _⟩ := v
 obtain ⟨_, _, _, ⟨_, _⟩, ⟨_, _⟩, _, _, _⟩ := w
 dsimp only
 simp only [hr, Option.bind_some, dY]
 exact ⟨_, rfl⟩
theorem GX : ∀ (N n : Nat) (a b : Value), Fit N a → 3 * N ≤ n → ∃ r, Jv n a b = some r := by
 intro N
 induction N with
 | zero => intro n a b h; exact absurd h (by obtain ⟨_, _, _, ⟨_, _⟩, ⟨_, _⟩, _, _, _⟩ := a; simp [Fit])
 | succ N ih =>
  intro n a b hf hn
  obtain ⟨n', rfl⟩ : ∃ n', n = n' + 3 := ⟨n - 3, by omega⟩
  obtain ⟨k1, n1, s1, ⟨l1, x1⟩, ⟨f1, y1⟩, e1, c1, b1⟩ := a
  obtain ⟨k2, n2, s2, ⟨l2, x2⟩, ⟨f2, y2⟩, e2, c2, b2⟩ := b
  obtain ⟨⟨p1, p2⟩, p3, p4⟩ := hf
  obtain ⟨r1, h1⟩ := WY (n := n' + 1) (m := l2) (x := x1) (y := x2) p1 fun u hu v _ => ih (n' + 1) u v (p2 u hu) (by omega)
  obtain ⟨r2, h2⟩ := WZ (n := n' + 1) (m := f2) (x := y1) (y := y2) p3 fun u hu v _ => abq (n := n') (by
   have := p4 u hu
   obtain ⟨m, u⟩ := u
   exact fun v => ih n' u v this (by omega))
  rw [Jv.eq_2]
  simp only [Vy, h1, h2, Option.bind_some, dY]
  exact ⟨_, rfl⟩
theorem adB {n : Nat} {l m : List ByteArray} {x y : Option (List ByteArray)} (q1 : l.length * 16 ≤ reachBytes) : ∃ r, OA n ⟨l, x⟩ ⟨m, y⟩ = some r := by
 unfold OA
 simp only [Wi]
 exact vC (bH (by omega) q1) fun u _ v _ => ⟨_, rfl⟩
theorem Ph {n : Nat} {l m : List Expr} {x y : Option (List Expr)} (q1 : l.length * 176 ≤ reachBytes) (h : ∀ u ∈ l, ∀ v ∈ m, ∃ r, zT n u v = some r) : ∃ r, Jz (n + 1) ⟨l, x⟩ ⟨m, y⟩ = some r := by
 rw [Jz.eq_2]
 simp only [Mr, Wh]
 exact vC (bH (by omega) q1) h
theorem Xa {n : Nat} {l m : List Act} {x y : Option (List Act)} (q1 : l.length * 200 ≤ reachBytes) (h : ∀ u ∈ l, ∀ v ∈ m, ∃ r, zS n u v = some r) : ∃ r, MR (n + 1) ⟨l, x⟩ ⟨m, y⟩ = some r := by
 rw [MR.eq_2]
 simp only [RQ, O7]
 exact vC (bH (by omega) q1) h
theorem abr {n : Nat} {a b : Act} (h : Ae (fun u => ∀ v, ∃ r, zT n u v = some r) a) : ∃ r, zS (n + 1) a b = some r := by
 obtain ⟨k, m, v⟩ := a
 obtain ⟨k', m', w⟩ := b
 obtain ⟨r, hr⟩ : ∃ r, zT n v w = some r := h w
 clear h
 rw [zS.eq_2]
 unfold Gs
 obtain ⟨_, _, _, ⟨_, _⟩, ⟨_, _⟩, ⟨_, _⟩, _, ⟨_, _⟩, ⟨_, _⟩, _⟩ := v
 obtain ⟨_, _, _, ⟨_, _⟩, ⟨_, _⟩, ⟨_, _⟩, _, ⟨_, _⟩, ⟨_, _⟩, _⟩ := w
 dsimp only
 simp only [hr, Option.bind_some, dY]
 exact ⟨_, rfl⟩
theorem af4 : ∀ (N n : Nat) (a b : Expr), mD N a → 3 * N ≤ n → ∃ r, zT n a b = some r := by
 intro N
 induction N with
 | zero => intro n a b h; exact absurd h (by obtain ⟨_, _, _, ⟨_, _⟩, ⟨_, _⟩, ⟨_, _⟩, _, ⟨_, _⟩, ⟨_, _⟩, _⟩ := a; simp [mD])
 | succ N ih =>
  intro n a b hf hn
  obtain ⟨n', rfl⟩ : ∃ n', n = n' + 3 := ⟨n - 3, by omega⟩
  obtain ⟨k1, n1, s1, ⟨a1, Wj⟩, ⟨ns1, Xq⟩, ⟨v1, Wm⟩, el1, ⟨Z8, Wn⟩, ⟨c1, Wo⟩, t1⟩ := a
  obtain ⟨k2, n2, s2, ⟨a2, ax2⟩, ⟨ns2, nx2⟩, ⟨v2, vx2⟩, el2, ⟨ky2, kx2⟩, ⟨c2, cx2⟩, t2⟩ := b
  obtain ⟨⟨p1, p2⟩, p3, ⟨p4, p5⟩, ⟨p6, p7⟩, p8, p9⟩ := hf
  obtain ⟨r1, h1⟩ := Ph (n := n' + 1) (m := a2) (x := Wj) (y := ax2) p1 fun u hu v _ => ih (n' + 1) u v (p2 u hu) (by omega)
  obtain ⟨r2, h2⟩ := Ph (n := n' + 1) (m := v2) (x := Wm) (y := vx2) p4 fun u hu v _ => ih (n' + 1) u v (p5 u hu) (by omega)
  obtain ⟨r3, h3⟩ := Ph (n := n' + 1) (m := ky2) (x := Wn) (y := kx2) p6 fun u hu v _ => ih (n' + 1) u v (p7 u hu) (by omega)
  obtain ⟨r4, h4⟩ := Xa (n := n' + 1) (m := c2) (x := Wo) (y := cx2) p8 fun u hu v _ => abr (n := n') (by
   have := p9 u hu
   obtain ⟨k, m, u⟩ := u
   exact fun v => ih n' u v this (by omega))
  obtain ⟨r5, h5⟩ := adB (n := n' + 2) (m := ns2) (x := Xq) (y := nx2) p3
  rw [zT.eq_2]
  simp only [Mq, h1, h2, h3, h4, h5, Option.bind_some, dY]
  exact ⟨_, rfl⟩
theorem adC {N n : Nat} {l m : Sl Value} (h : QE N l) (hn : 3 * N + 1 ≤ n) : ∃ r, Qn n l m = some r := by
 obtain ⟨n', rfl⟩ : ∃ n', n = n' + 1 := ⟨n - 1, by omega⟩
 obtain ⟨l, x⟩ := l
 obtain ⟨m, y⟩ := m
 exact WY h.1 fun u hu v _ => GX N n' u v (h.2 u hu) (by omega)
theorem Xb {N n : Nat} {l m : Sl Field} (h : GN N l) (hn : 3 * N + 2 ≤ n) : ∃ r, Oz n l m = some r := by
 obtain ⟨n', rfl⟩ : ∃ n', n = n' + 2 := ⟨n - 2, by omega⟩
 obtain ⟨l, x⟩ := l
 obtain ⟨m, y⟩ := m
 exact WZ h.1 fun u hu v _ => abq (by
  have := h.2 u hu
  obtain ⟨m, u⟩ := u
  exact fun v => GX N n' u v this (by omega))
theorem Pj {N n : Nat} {l m : Sl Act} (h : ED N l) (hn : 3 * N + 2 ≤ n) : ∃ r, MR n l m = some r := by
 obtain ⟨n', rfl⟩ : ∃ n', n = n' + 2 := ⟨n - 2, by omega⟩
 obtain ⟨l, x⟩ := l
 obtain ⟨m, y⟩ := m
 exact Xa h.1 fun u hu v _ => abr (by
  have := h.2 u hu
  obtain ⟨k, m, u⟩ := u
  exact fun v => af4 N n' u v this (by omega))
theorem af5 {N n : Nat} {a b : Cell} (hf : qg N a) (hn : 3 * N + 2 ≤ n) : ∃ r, P66 n a b = some r := by
 obtain ⟨k, m, v, u, ds, do_, un, en, r1, r2, od, pa⟩ := a
 obtain ⟨k', m', v', u', ds', aac, un', en', r1', r2', od', pa'⟩ := b
 obtain ⟨f1, f2, f3, f4, f5, f6, f7, f8⟩ := hf
 dsimp only at f1 f2 f3 f4 f5 f6 f7 f8
 obtain ⟨s1, g1⟩ := GX N n v v' f1 (by omega)
 obtain ⟨s2, g2⟩ := GX N n u u' f2 (by omega)
 obtain ⟨s3, g3⟩ := adC (m := ds') f3 (n := n) (by omega)
 obtain ⟨s4, g4⟩ := Pj (m := aac) f4 (n := n) (by omega)
 obtain ⟨s5, g5⟩ := Pj (m := un') f5 (n := n) (by omega)
 obtain ⟨s6, g6⟩ := Xb (m := en') f6 (n := n) (by omega)
 obtain ⟨s7, g7⟩ := Pj (m := od') f7 (n := n) (by omega)
 obtain ⟨s8, g8⟩ := Xb (m := pa') f8 (n := n) (by omega)
 clear f1 f2 f3 f4 f5 f6 f7 f8
 obtain ⟨_, _, _, ⟨_, _⟩, ⟨_, _⟩, _, _, _⟩ := v
 obtain ⟨_, _, _, ⟨_, _⟩, ⟨_, _⟩, _, _, _⟩ := v'
 obtain ⟨_, _, _, ⟨_, _⟩, ⟨_, _⟩, _, _, _⟩ := u
 obtain ⟨_, _, _, ⟨_, _⟩, ⟨_, _⟩, _, _, _⟩ := u'
 obtain ⟨_, _⟩ := ds
 obtain ⟨_, _⟩ := do_
 obtain ⟨_, _⟩ := un
 obtain ⟨_, _⟩ := en
 obtain ⟨_, _⟩ := od
 obtain ⟨_, _⟩ := pa
 obtain ⟨_, _⟩ := ds'
 obtain ⟨_, _⟩ := aac
 obtain ⟨_, _⟩ := un'
 obtain ⟨_, _⟩ := en'
 obtain ⟨_, _⟩ := od'
 obtain ⟨_, _⟩ := pa'
 unfold P66
 dsimp only
 simp only [g1, g2, g3, g4, g5, g6, g7, g8, Option.bind_some, dY]
 exact ⟨_, rfl⟩
theorem Xc {N n : Nat} {a b : Child} (hf : Fit N a.fV) (hn : 3 * N ≤ n) : ∃ r, Zh n a b = some r := by
 obtain ⟨k, d, m, v⟩ := a
 obtain ⟨k', d', m', w⟩ := b
 obtain ⟨s1, g1⟩ := GX N n v w hf hn
 clear hf
 unfold Zh
 obtain ⟨_, _, _, ⟨_, _⟩, ⟨_, _⟩, _, _, _⟩ := v
 obtain ⟨_, _, _, ⟨_, _⟩, ⟨_, _⟩, _, _, _⟩ := w
 dsimp only
 simp only [g1, Option.bind_some, dY]
 exact ⟨_, rfl⟩
theorem af6 : ∀ (N n : Nat) (a b : Inst), gJ N a → 3 * N + 2 ≤ n → ∃ r, OB n a b = some r := by
 intro N
 induction N with
 | zero => intro n v _ h; exact absurd h (by obtain ⟨_, ⟨_, _, _, ⟨_, _, _, ⟨_, _⟩, ⟨_, _⟩, _, _, _⟩⟩, ⟨_, _⟩, ⟨_, _⟩, ⟨_, _⟩, _, _, _, ⟨_, _, _, ⟨_, _⟩, ⟨_, _⟩, _, _, _⟩, _, _, ⟨_, _⟩, _, _⟩ := v; simp [gJ])
 | succ N ih =>
  intro n x y h hn
  obtain ⟨n', rfl⟩ : ∃ n', n = n' + 2 := ⟨n - 2, by omega⟩
  obtain ⟨d, c, ⟨s, sx⟩, ⟨o, ox⟩, ⟨k, kx⟩, nd, f, b, e, w, h', ⟨p, px⟩, r, q⟩ := x
  obtain ⟨d', c', ⟨s', sx'⟩, ⟨o', ox'⟩, ⟨k', kx'⟩, nd', f', b', e', w', h'', ⟨p', px'⟩, r', q'⟩ := y
  obtain ⟨h1, h2, h3, h6, h4, h5⟩ := h
  have row : ∀ (l m : List Inst) (x y : Option (List Inst)), l.length * 416 ≤ reachBytes → (∀ e ∈ l, gJ N e) → ∃ r, P40 (n' + 1) ⟨l, x⟩ ⟨m, y⟩ = some r := by
   intro l m x y q1 q2
   rw [P40.eq_2]
   simp only [VA, Ws]
   exact vC (bH (by omega) q1) fun u hu v _ => ih n' u v (q2 u hu) (by omega)
  obtain ⟨s1, g1⟩ := Xc (b := c') h1 (n := n' + 1) (by omega)
  obtain ⟨s2, g2⟩ : ∃ r, P38 (n' + 1) ⟨s, sx⟩ ⟨s', sx'⟩ = some r := by
   unfold P38
   simp only [Wq]
   exact vC (bH (by omega) h2.1) fun u hu v _ => af5 (h2.2 u hu) (by omega)
  obtain ⟨s3, g3⟩ : ∃ r, P39 (n' + 1) ⟨o, ox⟩ ⟨o', ox'⟩ = some r := by
   unfold P39
   simp only [QH]
   exact vC (bH (by omega) h3.1) fun u hu v _ => Xc (h3.2 u hu) (by omega)
  obtain ⟨s4, g4⟩ := row k k' kx kx' h4.1 h4.2
  obtain ⟨s5, g5⟩ := GX N (n' + 1) e e' h6 (by omega)
  obtain ⟨s6, g6⟩ := row p p' px px' h5.1 h5.2
  clear h1 h2 h3 h4 h5 h6
  obtain ⟨_, _, _, ⟨_, _, _, ⟨_, _⟩, ⟨_, _⟩, _, _, _⟩⟩ := c
  obtain ⟨_, _, _, ⟨_, _⟩, ⟨_, _⟩, _, _, _⟩ := e
  obtain ⟨_, _, _, ⟨_, _, _, ⟨_, _⟩, ⟨_, _⟩, _, _, _⟩⟩ := c'
  obtain ⟨_, _, _, ⟨_, _⟩, ⟨_, _⟩, _, _, _⟩ := e'
  rw [OB.eq_2]
  unfold Vz
  dsimp only
  simp only [g1, g2, g3, g4, g5, g6, Option.bind_some, dY]
  exact ⟨_, rfl⟩
inductive Way (d : Int) : Inst → List Inst → Prop
 | here {x : Inst} : iH x = d → Way d x [x]
 | down {x z : Inst} {l : List Inst} : (z ∈ eB x ∨ z ∈ cK x) → Way d z l → Way d x (x :: l)
theorem Way.head {d : Int} {x : Inst} {l : List Inst} (h : Way d x l) : ∃ r, l = x :: r := by cases h <;> exact ⟨_, rfl⟩
theorem Way.Pk {d : Int} {x : Inst} {l : List Inst} (h : Way d x l) : ∀ y ∈ l, y ∈ nodes x := by
 induction h with
 | here => intro y hy; rw [List.mem_singleton.1 hy]; exact gV _
 | down hz _ ih =>
  intro y hy
  rcases List.mem_cons.1 hy with rfl | hy
  ·exact gV _
  ·rcases hz with hz | hz
   ·exact eD.2 (.inr (.inl ⟨_, hz, ih y hy⟩))
   ·exact eD.2 (.inr (.inr ⟨_, hz, ih y hy⟩))
theorem Way.last {d : Int} {x : Inst} {l : List Inst} (h : Way d x l) : ∃ q, l[l.length - 1]? = some q ∧ iH q = d := by
 induction h with
 | here h => exact ⟨_, rfl, h⟩
 | @down x z l hz hw ih =>
  obtain ⟨r, rfl⟩ := hw.head
  obtain ⟨q, h1, h2⟩ := ih
  exact ⟨q, by simpa using h1, h2⟩
theorem Way.step {d : Int} {x : Inst} {l : List Inst} (h : Way d x l) : ∀ (k : Nat) p q, l[k]? = some p → l[k + 1]? = some q → q ∈ eB p ∨ q ∈ cK p := by
 induction h with
 | here h => intro k p q _ h2; simp at h2
 | @down x z l hz hw ih =>
  intro k p q h1 h2
  cases k with
  | zero =>
   obtain ⟨r, rfl⟩ := hw.head
   simp at h1 h2
   subst h1 h2
   exact hz
  | succ k => exact ih k p q (by simpa using h1) (by simpa using h2)
theorem Way.af7 {d : Int} {x : Inst} {l : List Inst} (h : Way d x l) : ∀ D, low D x → l.length ≤ D := by
 induction h with
 | here h =>
  intro D hD
  cases D with
  | zero => exact hD.elim
  | succ D => simp
 | @down x z l hz hw ih =>
  intro D hD
  cases D with
  | zero => exact hD.elim
  | succ D =>
   have := ih D (by rcases hz with hz | hz; exact hD.1 z hz; exact hD.2 z hz)
   simp only [List.length_cons]; omega
noncomputable def qF (p : Inst → Option X.Ex → Sl Inst → Option (Bool × Option X.Ex × Sl Inst)) (l : List Inst) : (Option X.Ex × List Inst × Option (List Inst) × Int) → Option ((Option X.Ex × List Inst × Option (List Inst) × Int) ⊕ ((Option X.Ex × List Inst × Option (List Inst) × Int) ⊕ (Option X.Ex × List Inst × Option (List Inst) × Int)))
 | (g, gl, gx, i) => bif decide (i < ln l) then (idx l i).bind fun x =>
   (bif !(iH x == 0) then (match g with | none => (p x none ⟨gl, gx⟩).bind fun r => some (r.2.1, r.2.2.l, r.2.2.x, !r.1) | some _ => none) else some (g, gl, gx, false)).bind fun q =>
    bif q.2.2.2 then some (.inr (.inr (q.1, q.2.1, q.2.2.1, i))) else some (.inl (q.1, q.2.1, q.2.2.1, dS (i + 1)))
  else some (.inr (.inl (g, gl, gx, i)))
theorem aaw (fu : Nat) (p : Inst → Inst → Int → Option X.Ex → Sl Inst → Option (Bool × Option X.Ex × Sl Inst)) (d1 : Int) (l : List Inst) (da : Int) (dba : ByteArray) (dbb : Int) (dbc : ByteArray) (af8 : Int) (af9 : Int) (aga : ByteArray) (abt : List Value) (abu : Option (List Value)) (abv : List Field) (abw : Option (List Field)) (agb : Int) (agc : ByteArray) (agd : Bool) (dcl : List Cell) (dcx : Option (List Cell)) (ddl : List Child) (ddx : Option (List Child)) (del : List Inst) (dex : Option (List Inst)) (df : Int) (dg : Bool) (dh : Bool) (dia : Int) (dib : Int) (dic : ByteArray) (agf : List Value) (agh : Option (List Value)) (agi : List Field) (agj : Option (List Field)) (dif : Int) (dig : ByteArray) (dih : Bool) (dj : ByteArray) (dk : Bool) (dml : List Inst) (dmx : Option (List Inst)) (dn : Bool) (do_ : Bool) :
  yZ fu p d1 da dba dbb dbc af8 af9 aga abt abu abv abw agb agc agd dcl dcx ddl ddx del dex df dg dh dia dib dic agf agh agi agj dif dig dih dj dk dml dmx dn do_ l =
  qF (fun y e b => p y (Inst.mk da (Child.mk dba dbb dbc (Value.mk af8 af9 aga (Sl.mk abt abu) (Sl.mk abv abw) agb agc agd)) (Sl.mk dcl dcx) (Sl.mk ddl ddx) (Sl.mk del dex) df dg dh (Value.mk dia dib dic (Sl.mk agf agh) (Sl.mk agi agj) dif dig dih) dj dk (Sl.mk dml dmx) dn do_) d1 e b) l := by
 funext q
 obtain ⟨g, gl, gx, i⟩ := q
 unfold yZ qF
 dsimp only
 cases decide (i < ln l)
 ·rfl
 ·cases idx l i with
  | none => rfl
  | some x =>
   obtain ⟨_, ⟨_, _, _, ⟨_, _, _, ⟨_, _⟩, ⟨_, _⟩, _, _, _⟩⟩, ⟨_, _⟩, ⟨_, _⟩, ⟨_, _⟩, _, _, _, ⟨_, _, _, ⟨_, _⟩, ⟨_, _⟩, _, _, _⟩, _, _, ⟨_, _⟩, _, _⟩ := x
   simp only [cond_true, Option.bind_some, iH]
   cases (!(_ == (0 : Int))) with
   | false => rfl
   | true =>
    cases g with
    | some _ => rfl
    | none =>
     simp only [cond_true]
theorem down_row {d : Int} {x : Inst} {l : List Inst} {p : Inst → Option X.Ex → Sl Inst → Option (Bool × Option X.Ex × Sl Inst)} (hl : l.length ≤ 8796093022208) (hid : ∀ a ∈ l, 0 < iH a)
  (hp : ∀ a ∈ l, ∀ b, (d ∉ nums a ∧ p a none b = some (true, none, b)) ∨ ∃ la, Way d a la ∧ p a none b = some (false, some .ret, ⟨x :: la, none⟩)) (gl : List Inst) (gx : Option (List Inst)) :
  ∀ (k i : Nat), k + i = l.length → (d ∉ (l.drop i).flatMap nums ∧ wl (qF p l) (none, gl, gx, (i : Int)) = some (.inl (none, gl, gx, (l.length : Int)))) ∨
   ∃ a ∈ l, ∃ la j, Way d a la ∧ wl (qF p l) (none, gl, gx, (i : Int)) = some (.inr (some .ret, x :: la, none, j)) := by
 intro k
 induction k with
 | zero =>
  intro i hi
  have : i = l.length := by omega
  subst this
  refine .inl ⟨by simp, iV ?_⟩
  simp only [qF, lW, cond_false]
 | succ k ih =>
  intro i hi
  have hk : i < l.length := by omega
  have hz : (iH l[i] == 0) = false := by have := hid l[i] (List.getElem_mem hk); simp; omega
  rcases hp l[i] (List.getElem_mem hk) ⟨gl, gx⟩ with ⟨h1, h2⟩ | ⟨la, h1, h2⟩
  ·have e : qF p l (none, gl, gx, (i : Int)) = some (.inl (none, gl, gx, ((i + 1 : Nat) : Int))) := by
    simp only [qF, kK hk, cond_true, iM l i hk, Option.bind_some, hz, Bool.not_false, h2, Bool.not_true, cond_false, lV (show i < 9223372036854775807 by omega)]
   rw [kR e]
   rcases ih (i + 1) (by omega) with ⟨h3, h4⟩ | h3
   ·refine .inl ⟨?_, h4⟩
    rw [List.drop_eq_getElem_cons hk, List.flatMap_cons, List.mem_append]
    exact fun h => h.elim h1 h3
   ·exact .inr h3
  ·refine .inr ⟨l[i], List.getElem_mem hk, la, (i : Int), h1, iV ?_⟩
   simp only [qF, kK hk, cond_true, iM l i hk, Option.bind_some, hz, Bool.not_false, h2]
theorem aax {d : Int} : ∀ (N D n : Nat) (x : Inst), gJ N x → qE D x → D ≤ 256 → 3 * N + 3 ≤ n →
  (d ∉ nums x ∧ ∃ lx, Zg n x d = some ⟨[], lx⟩) ∨ ∃ l lx, Way d x l ∧ Zg n x d = some ⟨l, lx⟩ := by
 intro N
 induction N with
 | zero => intro D n v h; exact absurd h (by obtain ⟨_, ⟨_, _, _, ⟨_, _, _, ⟨_, _⟩, ⟨_, _⟩, _, _, _⟩⟩, ⟨_, _⟩, ⟨_, _⟩, ⟨_, _⟩, _, _, _, ⟨_, _, _, ⟨_, _⟩, ⟨_, _⟩, _, _, _⟩, _, _, ⟨_, _⟩, _, _⟩ := v; simp [gJ])
 | succ N ih =>
  intro D n x hf ho hD hn
  cases D with
  | zero => exact ho.1.elim
  | succ D =>
   obtain ⟨h1, h2, h3⟩ := (vV D x).1 ho
   have hid := mF h1
   have hsp := vB h1
   obtain ⟨n', rfl⟩ : ∃ n', n = n' + 3 := ⟨n - 3, by omega⟩
   have hz : (iH x == 0) = false := by simp; omega
   rw [Zg.eq_2]
   by_cases e : iH x = d
   ·refine .inr ⟨[x], some [], .here e, ?_⟩
    obtain ⟨_, ⟨_, _, _, ⟨_, _, _, ⟨_, _⟩, ⟨_, _⟩, _, _, _⟩⟩, ⟨_, _⟩, ⟨_, _⟩, ⟨_, _⟩, _, _, _, ⟨_, _, _, ⟨_, _⟩, ⟨_, _⟩, _, _, _⟩, _, _, ⟨_, _⟩, _, _⟩ := x
    unfold RJ
    simp only [iH] at e hz
    subst e
    simp only [hz, cond_false, beq_self_eq_true, cond_true, Option.bind_some]
   ·have hp : ∀ a, gJ N a → qE D a → ∀ b, (d ∉ nums a ∧ qA (n' + 1) a x d none b = some (true, none, b)) ∨ ∃ la, Way d a la ∧ qA (n' + 1) a x d none b = some (false, some .ret, ⟨x :: la, none⟩) := by
     intro a h4 h5 b
     rw [qA.eq_2]
     rcases ih D n' a h4 h5 (by omega) (by omega) with ⟨k1, lx, k2⟩ | ⟨la, lx, k1, k2⟩
     ·refine .inl ⟨k1, ?_⟩
      obtain ⟨_, ⟨_, _, _, ⟨_, _, _, ⟨_, _⟩, ⟨_, _⟩, _, _, _⟩⟩, ⟨_, _⟩, ⟨_, _⟩, ⟨_, _⟩, _, _, _, ⟨_, _, _, ⟨_, _⟩, ⟨_, _⟩, _, _, _⟩, _, _, ⟨_, _⟩, _, _⟩ := a
      obtain ⟨_, ⟨_, _, _, ⟨_, _, _, ⟨_, _⟩, ⟨_, _⟩, _, _, _⟩⟩, ⟨_, _⟩, ⟨_, _⟩, ⟨_, _⟩, _, _, _, ⟨_, _, _, ⟨_, _⟩, ⟨_, _⟩, _, _, _⟩, _, _, ⟨_, _⟩, _, _⟩ := x
      obtain ⟨_, _⟩ := b
      unfold yY
      dsimp only
      rw [k2]
      rfl
     ·refine .inr ⟨la, k1, ?_⟩
      have hlen := k1.af7 D h5.1
      obtain ⟨r, hr⟩ := k1.head
      have e1 : decide (0 < ln la) = true := by rw [hr]; exact decide_eq_true (by simp only [ln, List.length_cons]; omega)
      have e2 : (ln la == 0) = false := by rw [hr]; exact beq_false_of_ne (by simp only [ln, List.length_cons]; omega)
      have e3 : ∀ z : Inst, room 416 (ln (z :: la)) = true := fun z => sK (by simp only [ln, List.length_cons]; omega)
      obtain ⟨_, ⟨_, _, _, ⟨_, _, _, ⟨_, _⟩, ⟨_, _⟩, _, _, _⟩⟩, ⟨_, _⟩, ⟨_, _⟩, ⟨_, _⟩, _, _, _, ⟨_, _, _, ⟨_, _⟩, ⟨_, _⟩, _, _, _⟩, _, _, ⟨_, _⟩, _, _⟩ := a
      obtain ⟨_, ⟨_, _, _, ⟨_, _, _, ⟨_, _⟩, ⟨_, _⟩, _, _, _⟩⟩, ⟨_, _⟩, ⟨_, _⟩, ⟨_, _⟩, _, _, _, ⟨_, _, _, ⟨_, _⟩, ⟨_, _⟩, _, _, _⟩, _, _, ⟨_, _⟩, _, _⟩ := x
      obtain ⟨_, _⟩ := b
      unfold yY
      dsimp only
      rw [k2]
      simp only [Option.bind_some, e1, e2, e3, cond_true, cond_false, List.cons_append, List.nil_append]
    have hh := EI (n' + 1) x
    have hns := iZ x
    have hmem : ∀ z la, (z ∈ eB x ∨ z ∈ cK x) → Way d z la → Way d x (x :: la) := fun z la h k => .down h k
    have row : ∀ (l : List Inst), l.length * 416 ≤ reachBytes → (∀ a ∈ l, gJ N a) → (∀ a ∈ l, qE D a) → ∀ gl gx, (d ∉ l.flatMap nums ∧ wl (qF (fun y e b => qA (n' + 1) y x d e b) l) (none, gl, gx, 0) = some (.inl (none, gl, gx, (l.length : Int)))) ∨
      ∃ a ∈ l, ∃ la j, Way d a la ∧ wl (qF (fun y e b => qA (n' + 1) y x d e b) l) (none, gl, gx, 0) = some (.inr (some .ret, x :: la, none, j)) := by
     intro l q1 q2 q3 gl gx
     have := down_row (d := d) (x := x) (p := fun y e b => qA (n' + 1) y x d e b) (bH (by omega) q1) (fun a ha => mF ((q3 a ha).2 a (gV a))) (fun a ha b => hp a (q2 a ha) (q3 a ha) b) gl gx l.length 0 (by omega)
     simpa using this
    obtain ⟨dd, c, s, o, ⟨k, kx⟩, nd, f, b', e', w, h, ⟨p, px⟩, r, q⟩ := x
    obtain ⟨_, _, _, _, q4, q5⟩ := hf
    simp only [eB, cK, iH] at h2 h3 hid hsp hz e hns hmem
    have hk : (d ∉ k.flatMap nums ++ p.flatMap nums ∧ ∃ ll lx, Er (n' + 2) (Inst.mk dd c s o ⟨k, kx⟩ nd f b' e' w h ⟨p, px⟩ r q) (Inst.mk dd c s o ⟨k, kx⟩ nd f b' e' w h ⟨p, px⟩ r q) d none ⟨[], some []⟩ = some (none, ⟨ll, lx⟩)) ∨
      ∃ z la lx, (z ∈ k ∨ z ∈ p) ∧ Way d z la ∧ Er (n' + 2) (Inst.mk dd c s o ⟨k, kx⟩ nd f b' e' w h ⟨p, px⟩ r q) (Inst.mk dd c s o ⟨k, kx⟩ nd f b' e' w h ⟨p, px⟩ r q) d none ⟨[], some []⟩ = some (some .ret, ⟨Inst.mk dd c s o ⟨k, kx⟩ nd f b' e' w h ⟨p, px⟩ r q :: la, lx⟩) := by
     have w1 := row k q4.1 q4.2 h2 [] (some [])
     have w2 := row p q5.1 q5.2 h3 [] (some [])
     rw [Er.eq_2]
     clear row hp ih hmem
     obtain ⟨_, _, _, ⟨_, _, _, ⟨_, _⟩, ⟨_, _⟩, _, _, _⟩⟩ := c
     obtain ⟨_, _, _, ⟨_, _⟩, ⟨_, _⟩, _, _, _⟩ := e'
     obtain ⟨_, _⟩ := s
     obtain ⟨_, _⟩ := o
     unfold Js
     dsimp only
     simp only [hh, Option.bind_some]
     simp only [← aaw (n' + 1)] at w1 w2
     cases hq : xD (Inst.mk dd _ _ _ ⟨k, kx⟩ nd f b' _ w h ⟨p, px⟩ r q) with
     | false =>
      have hp0 := hsp hq
      subst hp0
      simp only [cond_false, Option.bind_some]
      rcases w1 with ⟨v1, v2⟩ | ⟨a, ha, la, j, v1, v2⟩
      ·refine .inl ⟨by simpa using v1, [], some [], ?_⟩
       rw [kR (a' := (none, [], some [], 1)), iV (b := .inl (none, [], some [], 1))]
       ·rfl
       ·rfl
       ·unfold mg
        show (bif decide _ then ((wl _ _).bind _) else _) = _
        rw [v2]
        rfl
      ·refine .inr ⟨a, la, none, .inl ha, v1, ?_⟩
       rw [iV (b := .inr (some .ret, _ :: la, none, 0))]
       ·rfl
       ·unfold mg
        show (bif decide _ then ((wl _ _).bind _) else _) = _
        rw [v2]
        rfl
     | true =>
      have hr : room 24 (ln [(⟨k, kx⟩ : Sl Inst), ⟨p, px⟩]) = true := sK (by simp only [ln, List.length_cons, List.length_nil]; omega)
      simp only [cond_true, Option.bind_some, show (ln [(⟨p, px⟩ : Sl Inst)] == 0) = false from rfl, cond_false, List.cons_append, List.nil_append, hr]
      rcases w1 with ⟨v1, v2⟩ | ⟨a, ha, la, j, v1, v2⟩
      ·rcases w2 with ⟨u1, u2⟩ | ⟨a, ha, la, j, u1, u2⟩
       ·refine .inl ⟨by rw [List.mem_append]; exact fun h => h.elim v1 u1, [], some [], ?_⟩
        rw [kR (a' := (none, [], some [], 1)), kR (a' := (none, [], some [], 2)), iV (b := .inl (none, [], some [], 2))]
        ·rfl
        ·rfl
        ·unfold mg
         show (bif decide _ then ((wl _ _).bind _) else _) = _
         rw [u2]
         rfl
        ·unfold mg
         show (bif decide _ then ((wl _ _).bind _) else _) = _
         rw [v2]
         rfl
       ·refine .inr ⟨a, la, none, .inr ha, u1, ?_⟩
        rw [kR (a' := (none, [], some [], 1)), iV (b := .inr (some .ret, _ :: la, none, 1))]
        ·rfl
        ·unfold mg
         show (bif decide _ then ((wl _ _).bind _) else _) = _
         rw [u2]
         rfl
        ·unfold mg
         show (bif decide _ then ((wl _ _).bind _) else _) = _
         rw [v2]
         rfl
      ·refine .inr ⟨a, la, none, .inl ha, v1, ?_⟩
       rw [iV (b := .inr (some .ret, _ :: la, none, 0))]
       ·rfl
       ·unfold mg
        show (bif decide _ then ((wl _ _).bind _) else _) = _
        rw [v2]
        rfl
    have e2 : (dd == d) = false := by simpa using e
    rw [hns]
    rcases hk with ⟨v1, ll, lx, v2⟩ | ⟨z, la, lx, v0, v1, v2⟩
    ·refine .inl ⟨?_, some [], ?_⟩
     ·rw [List.mem_cons]
      exact fun h => h.elim (fun h => e h.symm) v1
     ·clear row hp ih hmem hns
      obtain ⟨_, _, _, ⟨_, _, _, ⟨_, _⟩, ⟨_, _⟩, _, _, _⟩⟩ := c
      obtain ⟨_, _, _, ⟨_, _⟩, ⟨_, _⟩, _, _, _⟩ := e'
      obtain ⟨_, _⟩ := s
      obtain ⟨_, _⟩ := o
      unfold RJ
      dsimp only
      simp only [hz, e2, cond_false, v2, Option.bind_some]
    ·refine .inr ⟨_, lx, hmem z la v0 v1, ?_⟩
     clear row hp ih hmem hns
     obtain ⟨_, _, _, ⟨_, _, _, ⟨_, _⟩, ⟨_, _⟩, _, _, _⟩⟩ := c
     obtain ⟨_, _, _, ⟨_, _⟩, ⟨_, _⟩, _, _, _⟩ := e'
     obtain ⟨_, _⟩ := s
     obtain ⟨_, _⟩ := o
     unfold RJ
     dsimp only
     simp only [hz, e2, cond_false, v2, Option.bind_some]
theorem aay {N n : Nat} {x : Inst} {d : Int} (hf : gJ N x) (ho : zi x) (hd : d ≠ 0) (hm : d ∈ nums x) (hn : 3 * N + 3 ≤ n) : ∃ l, Way d x l ∧ l.length ≤ 256 ∧ P14 n x d = some ⟨l.map dI, none⟩ := by
 rcases aax (d := d) N 256 n x hf ho.1 (Nat.le_refl _) hn with ⟨h1, _⟩ | ⟨l, lx, h1, h2⟩
 ·exact absurd hm h1
 ·have hlen := h1.af7 256 ho.1.1
  refine ⟨l, h1, hlen, ?_⟩
  obtain ⟨n', rfl⟩ : ∃ n', n = n' + 1 := ⟨n - 1, by omega⟩
  have h3 := WH (n := n') (l := l) (x := lx) (by rw [EB]; omega) fun v hv => adl N n' v (vW x hf (h1.Pk v hv)) (by omega)
  have e : (d == 0) = false := by simpa using hd
  clear h1 hf ho hm
  obtain ⟨_, ⟨_, _, _, ⟨_, _, _, ⟨_, _⟩, ⟨_, _⟩, _, _, _⟩⟩, ⟨_, _⟩, ⟨_, _⟩, ⟨_, _⟩, _, _, _, ⟨_, _, _, ⟨_, _⟩, ⟨_, _⟩, _, _, _⟩, _, _, ⟨_, _⟩, _, _⟩ := x
  unfold P14
  dsimp only
  simp only [e, cond_false, h2, h3, Option.bind_some]
theorem aaz {n : Nat} {x : Inst} {d : Int} {l : List Inst} {q : Inst} (h : P14 n x d = some ⟨l.map dI, none⟩) (hq : l[l.length - 1]? = some q) (hl : l.length ≤ 256) : P13 n x d = some (dI q, true) := by
 have hlt : l.length - 1 < l.length := (List.getElem?_eq_some_iff.1 hq).1
 have e1 : (ln (l.map dI) == 0) = false := beq_false_of_ne (by simp only [ln, List.length_map]; omega)
 have e2 : dS (ln (l.map dI) - 1) = ((l.length - 1 : Nat) : Int) := by rw [lU (by simp only [ln, List.length_map]; omega) (by simp only [ln, List.length_map]; omega)]; simp only [ln, List.length_map]; omega
 have e3 : idx (l.map dI) ((l.length - 1 : Nat) : Int) = some (dI q) := by rw [vP, List.getElem?_map, hq]; rfl
 revert e3
 generalize dI q = t
 intro e3
 obtain ⟨_, ⟨_, _, _, ⟨_, _, _, ⟨_, _⟩, ⟨_, _⟩, _, _, _⟩⟩, ⟨_, _⟩, ⟨_, _⟩, ⟨_, _⟩, _, _, _, ⟨_, _, _, ⟨_, _⟩, ⟨_, _⟩, _, _, _⟩, _, _, ⟨_, _⟩, _, _⟩ := x
 obtain ⟨_, ⟨_, _, _, ⟨_, _, _, ⟨_, _⟩, ⟨_, _⟩, _, _, _⟩⟩, ⟨_, _⟩, ⟨_, _⟩, ⟨_, _⟩, _, _, _, ⟨_, _, _, ⟨_, _⟩, ⟨_, _⟩, _, _, _⟩, _, _, ⟨_, _⟩, _, _⟩ := t
 unfold P13
 dsimp only
 simp only [h, e1, e2, e3, cond_false, Option.bind_some]
theorem Xd {N n : Nat} {x : Inst} {b : List Inst} (hf : gJ N x) (hn : 3 * N + 2 ≤ n) (hb : b.length + 1 ≤ 300000000000) : Es n x none b = some (true, none, b ++ [dI x]) := by
 have g1 := adl N n x hf hn
 revert g1
 generalize dI x = t
 intro g1
 have hr : ∀ z : Inst, room 416 (ln (b ++ [z])) = true := fun z => sK (by simp only [ln, List.length_append, List.length_cons, List.length_nil]; omega)
 have hi : ∀ z : Inst, idx (b ++ [z]) (ln b) = some z := fun z => by rw [Ud, vP]; simp
 have hs : ∀ z t : Inst, List.set (b ++ [z]) (Int.toNat (ln b)) t = b ++ [t] := fun z t => by simp [ln]
 obtain ⟨_, ⟨_, _, _, ⟨_, _, _, ⟨_, _⟩, ⟨_, _⟩, _, _, _⟩⟩, ⟨_, _⟩, ⟨_, _⟩, ⟨_, _⟩, _, _, _, ⟨_, _, _, ⟨_, _⟩, ⟨_, _⟩, _, _, _⟩, _, _, ⟨_, _⟩, _, _⟩ := x
 obtain ⟨_, ⟨_, _, _, ⟨_, _, _, ⟨_, _⟩, ⟨_, _⟩, _, _, _⟩⟩, ⟨_, _⟩, ⟨_, _⟩, ⟨_, _⟩, _, _, _, ⟨_, _, _, ⟨_, _⟩, ⟨_, _⟩, _, _, _⟩, _, _, ⟨_, _⟩, _, _⟩ := t
 unfold Es
 simp only [g1, hr, hi, hs, cond_true, Option.bind_some]
theorem GY {A B : Type} {g : A → B} : ∀ {l : List A} {b : List B}, l.foldl (fun s a => s ++ [g a]) b = b ++ l.map g
 | [], b => by simp
 | a :: r, b => by rw [List.foldl_cons, GY, List.map_cons, List.append_assoc]; rfl
theorem MP {N n : Nat} {l : List Inst} {b : List Inst} (hb : b.length + l.length ≤ 300000000000) (hid : ∀ a ∈ l, 0 < iH a) (hf : ∀ a ∈ l, gJ N a) (hn : 3 * N + 2 ≤ n) :
  wl (rG n l) (none, b, 0) = some (.inl (none, b ++ l.map dI, (l.length : Int))) := by
 refine IJ (f := rG n l) l (fun s a => s ++ [dI a]) (fun s k => (none, s, (k : Int))) (fun k s => s.length + (l.length - k) ≤ 300000000000) b (by simpa using hb) (fun k hk s hs => ?_) (fun s _ hs => ?_)
 ·have h1 := Xd (b := s) (hf l[k] (List.getElem_mem hk)) hn (by omega)
  have h2 := hid l[k] (List.getElem_mem hk)
  refine ⟨?_, by simp only [List.length_append, List.length_cons, List.length_nil]; omega⟩
  unfold rG
  dsimp only
  rw [kK hk, iM l k hk]
  revert h1 h2
  generalize l[k] = y
  intro h1 h2
  have h3 : (iH y == 0) = false := by simp; omega
  obtain ⟨_, ⟨_, _, _, ⟨_, _, _, ⟨_, _⟩, ⟨_, _⟩, _, _, _⟩⟩, ⟨_, _⟩, ⟨_, _⟩, ⟨_, _⟩, _, _, _, ⟨_, _, _, ⟨_, _⟩, ⟨_, _⟩, _, _, _⟩, _, _, ⟨_, _⟩, _, _⟩ := y
  simp only [iH] at h3
  simp only [cond_true, cond_false, Option.bind_some, h1, h3, Bool.not_false, Bool.not_true, lV (show k < 9223372036854775807 by omega)]
 ·unfold rG
  dsimp only
  rw [lW, hs, GY]
  rfl
theorem GZ {x : Inst} (h : kU x = true) : (eB x).length ≤ 4096 ∧ (cK x).length ≤ 4096 := by
 obtain ⟨d, c, s, o, ⟨k, kx⟩, n, f, b, e, w, h', ⟨p, px⟩, r, q⟩ := x
 simp only [kU, Bool.and_eq_true, decide_eq_true_eq, MJ, List.length_map] at h
 have h1 := h.1.1.1.1.1.1.1.2.1
 have h2 := h.1.1.1.1.1.1.2.1
 simp only [eB, cK]
 omega
theorem aaA {N n : Nat} {x : Inst} (hf : gJ N x) (ho : zi x) (hn : 3 * N + 2 ≤ n) : ∃ lx, P15 n x = some ⟨(eB x ++ cK x).map dI, lx⟩ := by
 have hal := ho.1.2 x (gV x)
 have hid := mF hal
 have hsp := vB hal
 have hlen := GZ hal
 have hz : (iH x == 0) = false := by simp; omega
 have hh := EI n x
 have hk : ∀ a ∈ eB x, 0 < iH a := fun a ha => mF (ho.1.2 a (eD.2 (.inr (.inl ⟨a, ha, gV a⟩))))
 have hp : ∀ a ∈ cK x, 0 < iH a := fun a ha => mF (ho.1.2 a (eD.2 (.inr (.inr ⟨a, ha, gV a⟩))))
 cases N with
 | zero => exact absurd hf (by obtain ⟨_, ⟨_, _, _, ⟨_, _, _, ⟨_, _⟩, ⟨_, _⟩, _, _, _⟩⟩, ⟨_, _⟩, ⟨_, _⟩, ⟨_, _⟩, _, _, _, ⟨_, _, _, ⟨_, _⟩, ⟨_, _⟩, _, _, _⟩, _, _, ⟨_, _⟩, _, _⟩ := x; simp [gJ])
 | succ N =>
 clear ho hal
 obtain ⟨d, c, s, o, ⟨k, kx⟩, nd, f, b, e, w, h, ⟨p, px⟩, r, q⟩ := x
 obtain ⟨_, _, _, _, q4, q5⟩ := hf
 simp only [eB, cK, iH] at hid hsp hz hk hp ⊢
 have lk := hlen.1
 have lp := hlen.2
 simp only [eB, cK] at lk lp
 have v1 := MP (n := n) (b := []) (l := k) (by simp only [List.length_nil]; omega) hk q4.2 (by omega)
 rw [List.nil_append] at v1
 obtain ⟨_, _, _, ⟨_, _, _, ⟨_, _⟩, ⟨_, _⟩, _, _, _⟩⟩ := c
 obtain ⟨_, _, _, ⟨_, _⟩, ⟨_, _⟩, _, _, _⟩ := e
 obtain ⟨_, _⟩ := s
 obtain ⟨_, _⟩ := o
 cases hq : xD (Inst.mk d _ _ _ ⟨k, kx⟩ nd f b _ w h ⟨p, px⟩ r q) with
 | false =>
  have hp0 := hsp hq
  subst hp0
  rw [hq] at hh
  refine ⟨none, ?_⟩
  have v2 : wl (oZ n [⟨k, kx⟩]) (none, [], 0) = some (.inl (none, k.map dI, 1)) := by
   rw [kR (a' := (none, k.map dI, 1)), iV]
   ·rfl
   ·unfold oZ
    show (bif decide _ then ((wl _ _).bind _) else _) = _
    rw [v1]
    rfl
  unfold P15 Ms
  dsimp only
  simp only [hz, hh, cond_false, Option.bind_some, v2, List.append_nil]
 | true =>
  rw [hq] at hh
  refine ⟨none, ?_⟩
  have v3 := MP (n := n) (b := k.map dI) (l := p) (by simp only [List.length_map]; omega) hp q5.2 (by omega)
  have hr : room 24 (ln [(⟨k, kx⟩ : Sl Inst), ⟨p, px⟩]) = true := sK (by simp only [ln, List.length_cons, List.length_nil]; omega)
  have v2 : wl (oZ n [⟨k, kx⟩, ⟨p, px⟩]) (none, [], 0) = some (.inl (none, k.map dI ++ p.map dI, 2)) := by
   rw [kR (a' := (none, k.map dI, 1)), kR (a' := (none, k.map dI ++ p.map dI, 2)), iV]
   ·rfl
   ·unfold oZ
    show (bif decide _ then ((wl _ _).bind _) else _) = _
    rw [v3]
    rfl
   ·unfold oZ
    show (bif decide _ then ((wl _ _).bind _) else _) = _
    rw [v1]
    rfl
  unfold P15 Ms
  dsimp only
  simp only [hz, hh, cond_false, cond_true, Option.bind_some, show (ln [(⟨p, px⟩ : Sl Inst)] == 0) = false from rfl, List.cons_append, List.nil_append, hr, v2, List.map_append]
theorem Xe {N n : Nat} {p l : List Inst} {k : Nat} {q : Inst} (hp : p[k]? = some q) (hl : l.length ≤ 8192) (hin : ∃ z ∈ l, dI z = dI q) (hf : ∀ z ∈ l, gJ N z) (hn : 3 * N + 2 ≤ n) :
  ∃ i, wl (Et n p (k : Int) l) (false, 0) = some (true, i) := by
 obtain ⟨b, h1, h2⟩ := vO (f := Et n p (k : Int) l) (fun s : Bool × Int => ∃ j : Nat, s.2 = (j : Int) ∧ j ≤ l.length ∧ ((∃ z ∈ l.take j, dI z = dI q) → s.1 = true)) (fun s => l.length - s.2.toNat)
  (fun r : Bool × Int => r.1 = true) (fun s hI => by
   obtain ⟨b, i⟩ := s
   obtain ⟨j, rfl, hj, hb⟩ := hI
   dsimp only at hb
   by_cases hlt : j < l.length
   ·left
    obtain ⟨r, hr⟩ := af6 N n l[j] q (hf _ (List.getElem_mem hlt)) hn
    have hq : idx p (k : Int) = some q := by rw [vP]; exact hp
    have e : Et n p (k : Int) l (b, (j : Int)) = some (.inl ((bif !b then r else true), ((j + 1 : Nat) : Int))) := by
     unfold Et
     dsimp only
     rw [kK hlt, iM l j hlt, hq]
     clear hb hf hin hp hq
     revert hr
     generalize l[j] = z
     intro hr
     obtain ⟨_, ⟨_, _, _, ⟨_, _, _, ⟨_, _⟩, ⟨_, _⟩, _, _, _⟩⟩, ⟨_, _⟩, ⟨_, _⟩, ⟨_, _⟩, _, _, _, ⟨_, _, _, ⟨_, _⟩, ⟨_, _⟩, _, _, _⟩, _, _, ⟨_, _⟩, _, _⟩ := z
     obtain ⟨_, ⟨_, _, _, ⟨_, _, _, ⟨_, _⟩, ⟨_, _⟩, _, _, _⟩⟩, ⟨_, _⟩, ⟨_, _⟩, ⟨_, _⟩, _, _, _, ⟨_, _, _, ⟨_, _⟩, ⟨_, _⟩, _, _, _⟩, _, _, ⟨_, _⟩, _, _⟩ := q
     simp only [cond_true, Option.bind_some, hr, dY, lV (show j < 9223372036854775807 by omega)]
    refine ⟨_, e, ⟨j + 1, rfl, by omega, fun hz => ?_⟩, by simp only [Int.toNat_natCast]; omega⟩
    cases b with
    | true => rfl
    | false =>
     obtain ⟨z, hz, he⟩ := hz
     rw [take_snoc' l j hlt, List.mem_append] at hz
     rcases hz with hz | hz
     ·exact absurd (hb ⟨z, hz, he⟩) (by simp)
     ·rw [List.mem_singleton.1 hz] at he
      have := Pb N n l[j] q (hf _ (List.getElem_mem hlt)) he hn
      rw [hr] at this
      cases this
      rfl
   ·right
    have : j = l.length := by omega
    subst this
    refine ⟨(b, (l.length : Int)), ?_, ?_⟩
    ·unfold Et
     dsimp only
     rw [lW]
     rfl
    ·exact hb (by rw [List.take_length]; exact hin)) l.length (false, 0) (by simp) ⟨0, rfl, by omega, by simp⟩
 obtain ⟨b1, b2⟩ := b
 obtain rfl : b1 = true := h2
 exact ⟨b2, h1⟩
theorem Xf {N n : Nat} {x : Inst} {d : Int} {l : List Inst} (hf : gJ N x) (ho : zi x) (hw : Way d x l) (hl : l.length ≤ 256) (hn : 3 * N + 2 ≤ n) :
  wl (Eu n (l.map dI)) 1 = some (.inl (l.length : Int)) := by
 obtain ⟨r0, hr0⟩ := hw.head
 have hpos : 1 ≤ l.length := by rw [hr0]; simp
 have := PL (f := Eu n (l.map dI)) (fun (_ : Unit) k => ((k + 1 : Nat) : Int)) (l.length - 1) (fun _ => ()) (b := .inl (l.length : Int)) (fun k hk => by
   have hk1 : k < l.length := by omega
   have hk2 : k + 1 < l.length := by omega
   have g1 : l[k]? = some l[k] := List.getElem?_eq_getElem hk1
   have g2 : l[k + 1]? = some l[k + 1] := List.getElem?_eq_getElem hk2
   have hst := hw.step k _ _ g1 g2
   have hm1 := hw.Pk _ (List.getElem_mem hk1)
   have hkept := aaA (n := n) (zf N _ (vW x hf hm1)) (MO (EL ho hm1)) hn
   obtain ⟨lx, hkept⟩ := hkept
   have hal := GZ (ho.1.2 _ hm1)
   obtain ⟨i, hfo⟩ := Xe (N := N) (n := n) (p := l.map dI) (l := (eB (dI l[k]) ++ cK (dI l[k])).map dI) (k := k + 1) (q := dI l[k + 1]) (by rw [List.getElem?_map, g2]; rfl)
    (by simp only [pF, mW, List.length_map, List.length_append]; omega)
    ⟨dI (dI l[k + 1]), by
     rw [pF, mW, ← List.map_append, List.map_map, List.mem_map]
     exact ⟨l[k + 1], List.mem_append.2 hst, rfl⟩, by rw [WB]⟩ (fun z hz => by
     rw [pF, mW, ← List.map_append, List.map_map, List.mem_map] at hz
     obtain ⟨u, hu, rfl⟩ := hz
     refine zf N _ (zf N _ (vW x hf (EK x hm1 u ?_)))
     rcases List.mem_append.1 hu with hu | hu
     ·exact eD.2 (.inr (.inl ⟨u, hu, gV u⟩))
     ·exact eD.2 (.inr (.inr ⟨u, hu, gV u⟩))) hn
   have e0 : decide (((k + 1 : Nat) : Int) < ln (l.map dI)) = true := kK (by rw [List.length_map]; exact hk2)
   have e1 : dS (((k + 1 : Nat) : Int) - 1) = (k : Int) := by rw [lU (by omega) (by omega)]; omega
   have e2 : idx (l.map dI) (k : Int) = some (dI l[k]) := by rw [vP, List.getElem?_map, g1]; rfl
   unfold Eu
   dsimp only
   rw [e0, e1, e2]
   clear hst hm1 hal
   revert hkept hfo
   generalize (eB (dI l[k]) ++ cK (dI l[k])).map dI = kl
   generalize dI l[k] = y
   intro hkept hfo
   obtain ⟨_, ⟨_, _, _, ⟨_, _, _, ⟨_, _⟩, ⟨_, _⟩, _, _, _⟩⟩, ⟨_, _⟩, ⟨_, _⟩, ⟨_, _⟩, _, _, _, ⟨_, _, _, ⟨_, _⟩, ⟨_, _⟩, _, _, _⟩, _, _, ⟨_, _⟩, _, _⟩ := y
   simp only [cond_true, cond_false, Option.bind_some, hkept, hfo, Bool.not_true, lV (show k + 1 < 9223372036854775807 by omega)]) (by
   have e0 : decide (((l.length - 1 + 1 : Nat) : Int) < ln (l.map dI)) = false := by rw [decide_eq_false]; simp only [ln, List.length_map]; omega
   unfold Eu
   dsimp only
   rw [e0, show l.length - 1 + 1 = l.length by omega]
   rfl)
 exact this
theorem early {fu : Nat} {x : Inst} {b c : Bool} (h8 : P8 fu x = some b) (h9 : P9 fu x = some c) (h : b = true ∨ c = false) : P4 fu x = some true := by
 obtain ⟨_, ⟨_, _, _, ⟨_, _, _, ⟨_, _⟩, ⟨_, _⟩, _, _, _⟩⟩, ⟨_, _⟩, ⟨_, _⟩, ⟨_, _⟩, _, _, _, ⟨_, _, _, ⟨_, _⟩, ⟨_, _⟩, _, _, _⟩, _, _, ⟨_, _⟩, _, _⟩ := x
 unfold P4 P7
 dsimp only
 simp only [h8, h9, Option.bind_some, Bool.not_true, Bool.not_false, cond_true, cond_false, dY]
 rcases h with rfl | rfl
 ·rfl
 ·cases b <;> rfl
theorem stride {f : Int → Option (Int ⊕ (Int ⊕ Int))} {n st : Nat} (hs : 0 < st) (h : ∀ k : Nat, k < n → f (k : Int) = some (.inl ((k + st : Nat) : Int))) (he : ∀ k : Nat, n ≤ k → f (k : Int) = some (.inr (.inl (k : Int)))) : ∃ o, wl f 0 = some (.inl o) := by
 obtain ⟨b, h1, o, rfl⟩ := vO (f := f) (fun i : Int => ∃ k : Nat, i = (k : Int)) (fun i => n - i.toNat) (fun r => ∃ o, r = .inl o) (fun i hI => by
  obtain ⟨k, rfl⟩ := hI
  by_cases hk : k < n
  ·exact .inl ⟨_, h k hk, ⟨_, rfl⟩, by simp only [Int.toNat_natCast]; omega⟩
  ·exact .inr ⟨_, he k (by omega), _, rfl⟩) n 0 (by simp) ⟨0, rfl⟩
 exact ⟨o, h1⟩
noncomputable def Xg (fu : Nat) (x : Inst) (L : List Inst) : Option (Int ⊕ Int) := match x with
 | Inst.mk ahE ⟨agk, agl, agm, ⟨adD, adE, adF, ⟨aaB, aaC⟩, ⟨aaD, aaE⟩, adG, adH, adI⟩⟩ ⟨agn, agp⟩ ⟨agq, agr⟩ ⟨ags, agt⟩ ahF ahG ahH ⟨agu, agv, agw, ⟨adJ, adK⟩, ⟨adL, adM⟩, agx, agy, agz⟩ ahI ahJ ⟨agA, agB⟩ ahK ahL =>  wl (Mv fu ahE agk agl agm adD adE adF aaB aaC aaD aaE adG adH adI agn agp agq agr ags agt ahF ahG ahH agu agv agw adJ adK adL adM agx agy agz ahI ahJ agA agB ahK ahL L) 0
theorem EM (x : Inst) (hx : OKI x) (hb : iL (gG x) ≤ 1048576) : ∃ fu, P4 fu x = some true := by
 obtain ⟨N, hN⟩ : ∃ N, N = SizeOf.sizeOf x := ⟨_, rfl⟩
 have hf := aav N x (by omega) hx
 refine ⟨20 * N + 100, ?_⟩
 obtain ⟨b, hb8⟩ := aau hf (n := 20 * N + 100) (by omega)
 obtain ⟨c, hc9, hc⟩ := MK hf (n := 20 * N + 100) (by omega)
 cases b with
 | true => exact early hb8 hc9 (.inl rfl)
 | false =>
 cases c with
 | false => exact early hb8 hc9 (.inr rfl)
 | true =>
  have hm := hc.1 rfl
  have hlenx : (nodes x).length ≤ 1048576 := Nat.le_trans (Pg x) hb
  have hpos : 0 < (nodes x).length := by rw [kF]; simp
  have h10 := adq hf hm (n := 20 * N + 100) (by omega) (by omega)
  have one : ∀ (k : Nat) (f0 : Inst), (nodes x)[k]? = some f0 → ∃ l : List Inst, P13 (20 * N + 100) x (iH (dI f0)) = some (dI f0, true) ∧ P14 (20 * N + 100) x (iH (dI f0)) = some ⟨l.map dI, none⟩ ∧
    OB (20 * N + 100) (dI f0) (dI f0) = some true ∧ P9 (20 * N + 100) (dI f0) = some true ∧ (ln (l.map dI) == 0) = false ∧ (∃ u, idx (l.map dI) 0 = some u ∧ OB (20 * N + 100) u x = some true) ∧
    idx (l.map dI) (dS (ln (l.map dI) - 1)) = some (dI f0) ∧ wl (Eu (20 * N + 100) (l.map dI)) 1 = some (.inl (l.length : Int)) := by
   intro k f0 hf0
   have hmem := List.mem_of_getElem? hf0
   have ff : gJ N (dI f0) := zf N f0 (vW x hf hmem)
   have hid : 0 < iH f0 := mF (hm.1.2 f0 hmem)
   have hne : iH (dI f0) ≠ 0 := by rw [Kc]; omega
   obtain ⟨l, w1, w2, w3⟩ := aay (d := iH (dI f0)) hf hm hne (by rw [Kc]; exact sQ hmem) (n := 20 * N + 100) (by omega)
   obtain ⟨q, q1, q2⟩ := w1.last
   have hq : q = f0 := WX hm.2 (w1.Pk q (List.mem_of_getElem? q1)) hmem (by rw [q2, Kc])
   subst hq
   obtain ⟨c2, hc2, hcc⟩ := MK ff (n := 20 * N + 100) (by omega)
   have hct : c2 = true := hcc.2 (MO (EL hm hmem))
   subst hct
   obtain ⟨r, hr⟩ := w1.head
   have hlp : 1 ≤ l.length := by rw [hr]; simp
   refine ⟨l, aaz w3 q1 w2, w3, Pb N _ _ _ ff rfl (by omega), hc2, beq_false_of_ne (by simp only [ln, List.length_map]; omega), ⟨dI x, by rw [hr]; rfl, Pb N _ _ _ (zf N x hf) (WB x) (by omega)⟩, ?_, Xf hf hm w1 w2 (by omega)⟩
   rw [lU (by simp only [ln, List.length_map]; omega) (by simp only [ln, List.length_map]; omega), show ln (l.map dI) - 1 = ((l.length - 1 : Nat) : Int) by simp only [ln, List.length_map]; omega, vP, List.getElem?_map, q1]
   rfl
  have hst : dS (1 + dS (Int.tdiv (ln ((nodes x).map dI)) 5)) = ((1 + (nodes x).length / 5 : Nat) : Int) := by
   rw [show Int.tdiv (ln ((nodes x).map dI)) 5 = (((nodes x).length / 5 : Nat) : Int) by
    simp only [ln, List.length_map]
    exact (Int.ofNat_tdiv (nodes x).length 5), show dS (((nodes x).length / 5 : Nat) : Int) = (((nodes x).length / 5 : Nat) : Int) from lU (by omega) (by omega), lU (by omega) (by omega)]
   omega
  have hnz : decide (0 < ln ((nodes x).map dI)) = true := decide_eq_true (by simp only [ln, List.length_map]; omega)
  have hl0 : ln ((nodes x).map dI) = ((nodes x).length : Int) := by simp [ln]
  clear hx hb hc
  have key : ∃ o, Xg (20 * N + 100) x ((nodes x).map dI) = some (.inl o) := by
   revert one h10 hst hnz hl0
   generalize hL : (nodes x).map dI = L
   intro h10 one hst hnz hl0
   have hLen : L.length = (nodes x).length := by rw [← hL, List.length_map]
   have hget : ∀ (k : Nat) (z : Inst), L[k]? = some z → ∃ f0, (nodes x)[k]? = some f0 ∧ z = dI f0 := fun k z hz => by
    rw [← hL, List.getElem?_map] at hz
    obtain ⟨f0, h1, h2⟩ := Option.map_eq_some_iff.1 hz
    exact ⟨f0, h1, h2.symm⟩
   clear hL
   revert one hget
   generalize nodes x = ns at *
   intro one hget
   clear hf hm hc9
   obtain ⟨_, ⟨_, _, _, ⟨_, _, _, ⟨_, _⟩, ⟨_, _⟩, _, _, _⟩⟩, ⟨_, _⟩, ⟨_, _⟩, ⟨_, _⟩, _, _, _, ⟨_, _, _, ⟨_, _⟩, ⟨_, _⟩, _, _, _⟩, _, _, ⟨_, _⟩, _, _⟩ := x
   unfold Xg
   dsimp only
   refine stride (n := L.length) (st := 1 + ns.length / 5) (by omega) (fun k hlt => ?_) (fun k hk => ?_)
   ·obtain ⟨f0, h1, h2⟩ := hget k L[k] (List.getElem?_eq_getElem hlt)
    obtain ⟨l, g1, g2, g3, g4, g5, ⟨u, g6, g7⟩, g8, g9⟩ := one k f0 h1
    have e1 : idx L (k : Int) = some (dI f0) := by rw [iM L k hlt, h2]
    unfold Mv
    dsimp only
    rw [kK hlt, e1, hst]
    clear h1 h2 hget one
    revert g1 g2 g3 g4 g8
    generalize dI f0 = f
    intro g1 g2 g3 g4 g8
    obtain ⟨_, ⟨_, _, _, ⟨_, _, _, ⟨_, _⟩, ⟨_, _⟩, _, _, _⟩⟩, ⟨_, _⟩, ⟨_, _⟩, ⟨_, _⟩, _, _, _, ⟨_, _, _, ⟨_, _⟩, ⟨_, _⟩, _, _, _⟩, _, _, ⟨_, _⟩, _, _⟩ := f
    obtain ⟨_, ⟨_, _, _, ⟨_, _, _, ⟨_, _⟩, ⟨_, _⟩, _, _, _⟩⟩, ⟨_, _⟩, ⟨_, _⟩, ⟨_, _⟩, _, _, _, ⟨_, _, _, ⟨_, _⟩, ⟨_, _⟩, _, _, _⟩, _, _, ⟨_, _⟩, _, _⟩ := u
    simp only [iH] at g1 g2
    simp only [cond_true, cond_false, Option.bind_some, g1, g2, g3, g4, g5, g6, g7, g8, g9, Bool.not_true, Bool.not_false]
    rw [lU (by omega) (by omega)]
    rfl
   ·have e0 : decide ((k : Int) < ln L) = false := decide_eq_false (by simp only [ln]; omega)
    unfold Mv
    dsimp only
    rw [e0]
    rfl
  obtain ⟨o, key⟩ := key
  clear one hst
  revert key hnz h10
  generalize (nodes x).map dI = L
  intro h10 hnz key
  clear hf hm hlenx hpos hl0
  obtain ⟨_, ⟨_, _, _, ⟨_, _, _, ⟨_, _⟩, ⟨_, _⟩, _, _, _⟩⟩, ⟨_, _⟩, ⟨_, _⟩, ⟨_, _⟩, _, _, _, ⟨_, _, _, ⟨_, _⟩, ⟨_, _⟩, _, _, _⟩, _, _, ⟨_, _⟩, _, _⟩ := x
  unfold Xg at key
  dsimp only at key
  unfold P4 P7
  dsimp only
  simp only [hb8, hc9, h10, key, hnz, Option.bind_some, Bool.not_true, Bool.not_false, cond_true, cond_false, show ((5 : Int) == 0) = false from rfl]
  rfl
set_option maxHeartbeats 4000000 in
theorem ahM (ls : List (List D)) (h : WTs tab [34] ls) (hb : fP ls ≤ 1048576) : call S 4 (Dh tab [34] ls) [] = some (.d (.bool true), []) := by
 obtain ⟨l1, _, rfl, h1, rfl⟩ := h
 obtain ⟨x, rfl⟩ := afP h1
 simp only [fP, iL, yI] at hb
 obtain ⟨fu, hp⟩ := EM x h1 (by omega)
 refine X0 (ok4 rfl rfl hp ?_ [])
 obtain ⟨_, ⟨_, _, _, ⟨_, _, _, ⟨_, _⟩, ⟨_, _⟩, _, _, _⟩⟩, ⟨_, _⟩, ⟨_, _⟩, ⟨_, _⟩, _, _, _, ⟨_, _, _, ⟨_, _⟩, ⟨_, _⟩, _, _, _⟩, _, _, ⟨_, _⟩, _, _⟩ := x
 rfl
end Go.Proofs.Ytedfkehkcaaplaa
