/- T -/
import Derived.Test.YtedfkehkcaaplaaXFlo
import Derived.Test.YtedfkehkcaaplaaXTrim
namespace Go.X
open Go
set_option linter.unusedVariables false
variable [bY]
def Ex.to : Ex → Exit
 | .normal => .normal
 | .exit id => .exit id
 | .ret => .ret
def jT (n0 : Nat) (m : Mt) (w : World) : List Deferred → Prop
 | [] => True
 | d :: ds => (∃ r, d.target = .collected r ∧ n0 ≤ r ∧ w.heap[r]? = some (.deferred (some [])) ∧ r ∉ blks m.blk ∧ ∀ d' ∈ ds, d'.target ≠ .collected r) ∧ jT n0 m w ds
theorem jT.ext {n0 : Nat} {m m' : Mt} {w w' : World} (hx : Ext m w m' w') : ∀ {ds : List Deferred}, jT n0 m w ds → jT n0 m' w' ds
 | [], _ => trivial
 | d :: ds, h => by
  obtain ⟨⟨r, h1, h2, h3, h4, h5⟩, h6⟩ := h
  have hr : r < w.heap.size := (Array.getElem?_eq_some_iff.1 h3).1
  exact ⟨⟨r, h1, h2, (hx.kept r hr h4).trans h3, fun hb => (hx.new r hb).elim h4 fun h => by omega, h5⟩, jT.ext hx h6⟩
theorem jT.sub {n0 : Nat} {m m' : Mt} {w : World} (hx : ∀ b ∈ blks m'.blk, b ∈ blks m.blk) : ∀ {ds : List Deferred}, jT n0 m w ds → jT n0 m' w ds
 | [], _ => trivial
 | d :: ds, h => by
  obtain ⟨⟨r, h1, h2, h3, h4, h5⟩, h6⟩ := h
  exact ⟨⟨r, h1, h2, h3, fun hb => h4 (hx r hb), h5⟩, jT.sub hx h6⟩
def Post {R : Type} (n n0 : Nat) (m : Mt) (w : World) (K : Ex → Env → St → Option R) (r : R) : Exit → Act → World → Prop := fun x a' w' =>
 ∃ e ρ' st' m', x = Ex.to e ∧ K e ρ' st' = some r ∧ aM m' w' ρ' a' ∧ Ext m w m' w' ∧ aO m' st' w' ∧ n ≤ a'.tmps.size ∧ jT n0 m' w' a'.defers
theorem aO.beside {m : Mt} {st : St} {w w' : World} (hw : aO m st w) {b0 : Nat} (h0 : b0 ∉ blks m.blk) (hc : m.cl b0 = 0) (hno : ∀ c t fr, w.heap[b0]? ≠ some (.cells c t fr)) (hsame : ∀ b, b ≠ b0 → w'.heap[b]? = w.heap[b]?) : Keeps m.cl w m.cl w' ∧ aO m st w' := by
 have hk : Keeps m.cl w m.cl w' := ⟨fun b => Nat.le_refl _, fun b j hj => by
  have : b ≠ b0 := fun h => by subst h; rw [hc] at hj; omega
  exact World.cell?_of_block (hsame b this)⟩
 refine ⟨hk, hw.st.keep hk (fun b hb => ⟨hsame b fun h => h0 (h ▸ hb), rfl⟩), hw.nodup, fun b => ?_, fun q hq => ?_⟩
 rotate_left
 ·obtain ⟨⟨t, fr, h1⟩, h2⟩ := hw.glob q hq
  exact ⟨⟨t, fr, (hsame _ fun h => hno _ _ _ (h ▸ h1)).trans h1⟩, h2⟩
 by_cases h : b = b0
 ·subst h; rw [hc]; exact Nat.zero_le _
 ·rw [kM (hsame b h)]; exact hw.le b
theorem Rv {w : World} {l : Nat} {r : Loop} (h : w.heap[l]? = some (.loop r)) (r' : Loop) (a : Addr) : (w.putObj l (.loop r')).frozen? a = w.frozen? a := by
 by_cases hb : a.block = l
 ·have h1 : (w.putObj l (.loop r')).heap[a.block]? = some (.loop r') := by rw [hb]; exact World.putObj_heap_same (Array.getElem?_eq_some_iff.1 h).1
  have h2 : w.heap[a.block]? = some (.loop r) := by rw [hb]; exact h
  simp only [World.frozen?, h1, h2]
 ·simp only [World.frozen?, World.putObj_heap_other (w := w) hb]
theorem TK {es : List bZ} {i : Nat} {e : bZ} {l : List Nat} (h : es[i]? = some e) (hg : e.gone = false) (hn : (eX es ++ l).Nodup) : e.b ∉ eX (es.take i) ++ l := by
 have hlt := (List.getElem?_eq_some_iff.1 h).1
 have he : es = es.take i ++ e :: es.drop (i + 1) := by
  rw [← (List.getElem?_eq_some_iff.1 h).2, List.getElem_cons_drop, List.take_append_drop]
 rw [he, kZ, fE, hg] at hn
 simp only [cond_false, List.append_assoc, List.cons_append] at hn
 intro hc
 rw [List.nodup_append] at hn
 obtain ⟨_, h2, h3⟩ := hn
 rcases List.mem_append.1 hc with hc | hc
 ·exact h3 _ hc _ (by simp) rfl
 ·rw [List.nodup_cons] at h2
  exact h2.1 (List.mem_append.2 (.inr hc))
def pV (P : Program) (f : Nat) : Prop := ∃ fn, P.funcs[f]? = some fn ∧ fn.name ≠ "runtime.NumGoroutine" ∧ fn.body.isSome = true
def IC (P : Program) (c : CF) : Prop := ∀ (f : Nat) (args : List PV) (st : St) (r : PV) (st' : St), iF f = false → c f args st = some (r, st') →
 pV P f ∧ ∀ (m : Mt) (w : World) (vs : List Value), aK m.blk m.cl w args vs → aO m st w →
  Calls P f vs.toArray w fun e w' => ∃ v m', e = .returned v ∧ aj m'.blk m'.cl w' r v ∧ Ext m w m' w' ∧ aO m' st' w'
section
variable {P : Program} {Γ : Tab} {c : CF} (hΓ : cZ P Γ) (hok : qO P Γ c) (hcf : IC P c) (hm : P.follows .mixedOrders = true) {an : iG} {n n0 : Nat} {ro : Option Nat}
include hcf in
theorem FY {R : Type} {K : Ex → Env → St → Option R} {r : R} {ρ env : Env} {st : St} {a : Act} {w : World} {m : Mt} {t site f : Nat} {caps : List PV} {us : List Value} {ps : Array Nat} {BS body : Code} {q : Site}
  (he : aM m w ρ a) (XP : aM m w env a) (hw : aO m st w) (hn : n ≤ a.tmps.size) (hd : jT n0 m w a.defers) (hn0 : n0 ≤ w.heap.size) (hq : bY.site site = some q) (hqn : q.n ≤ n) (hps : q.ps = ps.toList) (XQ : q.BS = BS) (hbody : q.body = body)
  (XH : a.tmps.getD t undef = .func (.func f) #[] us.toArray) (TA : aK m.blk m.cl w caps us) (h : Nc (real c) site env ρ st f caps K = some r) :
  (Code.rangeFunc (.tmp t) ps BS body).wpIn (Fw none) 0 P (Post n n0 m w K r) a w := by
 unfold Nc at h
 cases hl : fQ st 0 with
 | false => simp [hl] at h
 | true =>
 simp only [hl, cond_true] at h
 obtain ⟨⟨v3, Fu⟩, hcall, h⟩ := Option.bind_eq_some_iff.1 h
 change (bif iF f then none else c f _ _) = some _ at hcall
 cases hsb : iF f with
 | true => rw [hsb] at hcall; cases hcall
 | false =>
 rw [hsb] at hcall
 dsimp only at h
 have hl' : 0 < st.length := by cases st with | nil => simp [fQ] at hl | cons x y => simp
 obtain ⟨⟨fn, f1, f2, f3⟩, hc⟩ := hcf f _ _ v3 Fu hsb hcall
 refine wpIn_rangeFunc fun own _ => ?_
 let TL : Loop := { state := .ready, pending := none, fn := own, tmps := a.tmps, params := ps, assign := BS, body := body, defers := w.heap.size }
 let w1 := w.alloc (.deferred (some []))
 let w2 := w1.alloc (.loop TL)
 obtain ⟨x1, hw1⟩ := hw.push (w' := w1) (ob := .deferred (some [])) rfl rfl rfl rfl (fun c e fr h => by cases h)
 have hs1 : w1.heap.size = w.heap.size + 1 := by show (w.heap.push _).size = _; simp
 have hL : w2.heap[w1.heap.size]? = some (.loop TL) := World.alloc_heap_new w1 _
 obtain ⟨m2, hm2, x2, hw2, he2⟩ := hw1.new (l := 0) hl' (w' := w2) (ob := .loop TL) rfl rfl rfl rfl (fun c e fr h => by cases h) (o := .loop site env none) (e := ⟨w1.heap.size, 0, 0, 0⟩) rfl (n := 0) (Nat.zero_le _) (fun hk hle => by
  simp only [aL]
  refine ⟨trivial, by simp, TL, hL, ⟨q, hq, by show ps = q.ps.toArray; rw [hps], XQ.symm, hbody.symm, Nat.le_trans hqn hn⟩, ⟨rfl, rfl⟩, fun t => ?_⟩
  rw [mG]
  exact ((XP t).ext x1).keep hk hle)
 have hD2 : w2.heap[w.heap.size]? = some (.deferred (some [])) := by
  have e1 : w1.heap[w.heap.size]? = some (.deferred (some [])) := World.alloc_heap_new w _
  have : w2.heap[w.heap.size]? = w1.heap[w.heap.size]? := by
   show (w1.heap.push _)[w.heap.size]? = _
   rw [Array.getElem?_push, if_neg (by omega)]
  rw [this]; exact e1
 have hyv : aj m2.blk m2.cl w2 (.jv 0 (dD st 0)) (.func (.yield w1.heap.size) #[] #[]) := by
  simp only [aj]
  exact ⟨_, he2, rfl, rfl⟩
 refine ⟨w1.heap.size, [{ target := .collected w.heap.size, args := #[] }], w2, { target := .fn (.func f) us.toArray, args := #[.func (.yield w1.heap.size) #[] #[]] }, w2, f, #[.func (.yield w1.heap.size) #[] #[]] ++ us.toArray, w2, ?_, ?_, fun _ _ => trivial, ?_, fun h => by simp [Fw] at h, ?_⟩
 ·have := run_enterLoop_outer (P := P) (w := w) own a.tmps ps BS body
  rw [show (Fw none).round = none from rfl, this]
  simp only [w2, w1, TL, hs1]
 ·simp only [resolve]
  simp [go_sem, Act.eval, XH]
 ·cases hb : fn.body with
  | none => rw [hb] at f3; simp at f3
  | some bd => simp [invoke, go_sem, callFunc, f1, f2, hb]
 ·have NI := hc m2 w2 (.func (.yield w1.heap.size) #[] #[] :: us) ⟨_, _, rfl, hyv, (TA.ext x1).ext x2⟩ hw2
  have e1 : (#[Value.func (.yield w1.heap.size) #[] #[]] ++ us.toArray) = (Value.func (.yield w1.heap.size) #[] #[] :: us).toArray := by apply Array.ext'; simp
  rw [e1]
  refine CallsIn.mono (Kv NI) ?_
  rintro e w3 ⟨v, m3, rfl, _, x3, hw3⟩
  split at h
  rotate_left
  ·cases h
  rename_i pK env' p uE
  obtain ⟨e3, g1, g2⟩ := hw3.st.je uE
  simp only [aL] at g2
  obtain ⟨k1, k2, KU, k3, k4, k5, k6⟩ := g2
  obtain ⟨e4, g3, g4⟩ := x3.ents.2 0 _ _ he2
  rw [g1] at g3; cases g3
  have hb3 : e3.b = w1.heap.size := by
   have := g4.2.2 (.inr rfl)
   rw [this]
  rw [hb3] at k2 k3
  have adX : p ≠ some .normal → KU.state ≠ .busy := by
   intro hp
   rcases p with _ | (_ | id | _)
   ·rw [k5.1]; simp
   ·exact absurd rfl hp
   ·rw [k5.1]; simp
   ·rw [k5.1]; simp
  cases XR : Nat.ble (dD (trim fF (dD st 0) ρ Fu) 0) (dD st 0) with
  | false =>
   have : (real c).plain = fF := rfl
   rw [this, XR] at h
   cases h
  | true =>
  have hpl : (real c).plain = fF := rfl
  rw [hpl, XR] at h
  simp only [cond_true] at h
  have hpn : p ≠ some .normal := fun hp => by subst hp; cases h
  have FZ := (x1.trans x2).trans x3
  have abG : Il m.blk ≤ dD st 0 := by rw [yt hw]; exact Nat.le_refl _
  obtain ⟨m4, y1, y2, y3, y4⟩ := uz (n := dD st 0) FZ abG hw3 (fun t => (he t).ext FZ : aM m3 w3 ρ a)
  have hcl : m4.cl = m3.cl := by rcases y4 with ⟨rfl, _⟩ | ⟨es, q, fr, s, _, rfl, _, _⟩ <;> rfl
  have hout : w1.heap.size ∉ blks m4.blk := by
   rcases y4 with ⟨_, hst⟩ | ⟨es, q, fr, s, hb1, rfl, hb2, ahQ⟩
   ·exfalso
    rw [hst] at XR
    have h1 := Nat.le_of_ble_eq_true XR
    cases Fu with
    | nil => simp [look] at uE
    | cons fr s =>
     simp only [look] at uE
     have := (List.getElem?_eq_some_iff.1 uE).1
     simp only [dD] at h1
     omega
   ·rw [hb1] at g1
    simp only [ent] at g1
    have hnd := hw3.nodup
    rw [hb1, aA] at hnd
    have := TK g1 (ku k1) hnd
    rw [hb3] at this
    show w1.heap.size ∉ blks (es.take (dD st 0) :: q)
    rw [aA]
    exact this
  let w4 := w3.putObj w1.heap.size (.loop { KU with state := .exhausted })
  have hsame : ∀ b, b ≠ w1.heap.size → w4.heap[b]? = w3.heap[b]? := fun b hb => World.putObj_heap_other hb
  obtain ⟨hk4, hw4⟩ := y2.beside (w' := w4) hout (by rw [hcl]; exact k2) (fun c t fr h => by rw [k3] at h; cases h) hsame
  have x4 : Ext m w m4 w4 := by
   refine ⟨y1.keeps.trans hk4, y1.ents, y1.os, y1.tape, y1.output, by show _ ≤ (w3.putObj _ _).heap.size; rw [World.putObj_size]; exact y1.size, fun b hb hnb => ?_, y1.new, y1.cls⟩
   exact (hsame b (by omega)).trans (y1.kept b hb hnb)
  have he4 : aM m4 w4 ρ a := fun t => (y3 t).keep hk4 (.refl _)
  have hDlt : w.heap.size < w2.heap.size := (Array.getElem?_eq_some_iff.1 hD2).1
  have adY : w.heap.size ∉ blks m2.blk := by
   intro hb
   rw [hm2] at hb
   rcases mQ _ _ _ _ hb with ⟨_, h⟩ | h
   ·dsimp only at h; omega
   ·have := hw.lt _ h; omega
  have hD3 : w3.heap[w.heap.size]? = some (.deferred (some [])) := (x3.kept _ hDlt adY).trans hD2
  have agM : w.heap.size ∉ blks m3.blk := fun hb => (x3.new _ hb).elim adY fun h => by omega
  have hd4 : jT n0 m4 w4 ({ target := .collected w.heap.size, args := #[] } :: a.defers) := by
   refine ⟨⟨w.heap.size, rfl, hn0, (hsame _ (by omega)).trans hD3, fun hb => agM (y4.blks _ hb), fun d' hd' hc' => ?_⟩, hd.ext x4⟩
   have : ∀ {ds : List Deferred}, jT n0 m w ds → ∀ d ∈ ds, ∀ r, d.target = .collected r → r < w.heap.size := by
    intro ds
    induction ds with
    | nil => intro _ d hd; simp at hd
    | cons d ds ih =>
     intro h d' hd' r hr
     obtain ⟨⟨r', q1, q2, q3, _⟩, q4⟩ := h
     rcases List.mem_cons.1 hd' with rfl | hd'
     ·rw [q1] at hr; cases hr; exact (Array.getElem?_eq_some_iff.1 q3).1
     ·exact ih q4 d' hd' r hr
   have := this hd d' hd' _ hc'
   omega
  refine ⟨KU.pending, w4, run_endLoop k3 (adX hpn), ?_⟩
  rcases p with _ | (_ | id | _)
  ·rw [k5.2]
   exact ⟨.normal, ρ, _, m4, rfl, h, he4, x4, hw4, hn, hd4⟩
  ·exact absurd rfl hpn
  ·rw [k5.2]
   exact wpIn_exit ⟨.exit id, ρ, _, m4, rfl, h, he4, x4, hw4, hn, hd4⟩
  ·rw [k5.2]
   exact wpIn_ret ⟨.ret, ρ, _, m4, rfl, h, he4, x4, hw4, hn, hd4⟩
include hΓ hok hcf hm
theorem wR : ∀ (co : Code), jD n co = true → iU an n co → (ro ≠ none → nD co = true) → ∀ {R : Type} {K : Ex → Env → St → Option R} {r : R} {ρ : Env} {st : St} {a : Act} {w : World} {m : Mt},
  aM m w ρ a → aO m st w → n ≤ a.tmps.size → jT n0 m w a.defers → n0 ≤ w.heap.size → exec (real c) Γ an co ρ st K = some r → co.wpIn (Fw ro) 0 P (Post n n0 m w K r) a w := by
 intro co
 induction co with
 | label | goto | refuse | scope => intro _ _ _ R K r ρ st a w m he hw hn hd hn0 hr; simp [exec] at hr
 | rangeFunc g ps x b ihx ihb =>
  intro hc hs hro R K r ρ st a w m he hw hn hd hn0 hr
  have hro : ro = none := Classical.byContradiction fun h => by have := hro h; simp [nD] at this
  subst hro
  simp only [iU] at hs
  obtain ⟨t, q, rfl, hq, hqn, hps, XQ, hbody⟩ := hs
  simp only [exec, Nf] at hr
  have hrel := he t
  have XP : aM m w (aB (an.cap t) ρ) a := (jL (an.cap t) ρ).rel he
  split at hr
  ·rename_i f caps hx
   rw [hx] at hrel; simp only [aj, aZ] at hrel
   obtain ⟨us, h1, h2⟩ := hrel
   exact FY hcf he XP hw hn hd hn0 hq hqn hps XQ hbody h1 ((aK.cells (bl := m.blk) h2).list) hr
  ·rename_i f caps hx
   rw [hx] at hrel; simp only [aj] at hrel
   obtain ⟨us, h1, h2⟩ := hrel
   exact FY hcf he XP hw hn hd hn0 hq hqn hps XQ hbody h1 h2.list hr
  ·cases hr
 | skip =>
  intro _ _ _ R K r ρ st a w m he hw hn hd hn0 hr
  simp only [exec] at hr
  exact wpIn_skip ⟨.normal, ρ, st, m, rfl, hr, he, Ext.refl m w, hw, hn, hd⟩
 | exit id =>
  intro _ _ _ R K r ρ st a w m he hw hn hd hn0 hr
  simp only [exec] at hr
  exact wpIn_exit ⟨.exit id, ρ, st, m, rfl, hr, he, Ext.refl m w, hw, hn, hd⟩
 | ret =>
  intro _ _ _ R K r ρ st a w m he hw hn hd hn0 hr
  simp only [exec] at hr
  exact wpIn_ret ⟨.ret, ρ, st, m, rfl, hr, he, Ext.refl m w, hw, hn, hd⟩
 | region id ops dr =>
  intro hc _ _ R K r ρ st a w m he hw hn hd hn0 hr
  simp only [exec] at hr
  simp only [jD, Bool.and_eq_true, Bool.or_eq_true, Bool.not_eq_true', List.all_eq_true] at hc
  have hQ : ∀ ρ' st' a' w' m', K .normal (aB an.keep ρ') st' = some r → aM m' w' ρ' a' → Ext m w m' w' → aO m' st' w' → n ≤ a'.tmps.size → a'.defers = a.defers → Post n n0 m w K r .normal a' w' := by
   intro ρ' st' a' w' m' h1 h2 h3 h4 h5 h6
   exact ⟨.normal, _, st', m', rfl, h1, (jL an.keep ρ').rel h2, h3, h4, h5, by rw [h6]; exact hd.ext h3⟩
  cases dr with
  | false => exact wpIn_region_list (uG hok ops.toList 0 ρ st a w m hc.1 he hw hn hr hQ)
  | true =>
   cases hlt : late ops.toList with
   | false =>
    rw [hlt] at hr
    cases hfl : Ce ops.toList with
    | none => exact Iz hok hm (by simpa using hc.2) hlt hfl hc.1 he hw hn hr hQ ro
    | some q => exact NW hΓ hok hm (by simpa using hc.2) hfl hc.1 he hw hn hr hQ ro
   | true =>
    rw [hlt] at hr
    exact KS hok hm (by simpa using hc.2) hlt hc.1 he hw hn hr hQ ro
 | seq x y ihx ihy =>
  intro hc hs hro R K r ρ st a w m he hw hn hd hn0 hr
  simp only [exec] at hr
  simp only [jD, Bool.and_eq_true] at hc
  simp only [nD, Bool.and_eq_true] at hro
  refine wpIn_seq (wpIn_mono (ihx hc.1 hs.1 (fun h => (hro h).1) he hw hn hd hn0 hr) ?_)
  rintro e' a' w' ⟨e, ρ', st', m', rfl, h1, h2, h3, h4, h5, h6⟩
  cases e with
  | normal =>
   simp only [Ex.to, Exit.then]
   refine wpIn_mono (ihy hc.2 hs.2 (fun h => (hro h).2) h2 h4 h5 h6 (Nat.le_trans hn0 h3.size) h1) ?_
   rintro e' a'' w'' ⟨e, ρ'', Hl, m'', rfl, k1, k2, k3, k4, k5, k6⟩
   exact ⟨e, ρ'', Hl, m'', rfl, k1, k2, h3.trans k3, k4, k5, k6⟩
  | exit id => exact ⟨.exit id, ρ', st', m', rfl, h1, h2, h3, h4, h5, h6⟩
  | ret => exact ⟨.ret, ρ', st', m', rfl, h1, h2, h3, h4, h5, h6⟩
 | cond x y z ihy ihz =>
  intro hc hs hro R K r ρ st a w m he hw hn hd hn0 hr
  simp only [exec] at hr
  simp only [jD, Bool.and_eq_true] at hc
  simp only [nD, Bool.and_eq_true] at hro
  split at hr
  ·rename_i t
   have hrel := he t
   split at hr
   ·rename_i b hb
    rw [hb] at hrel; simp only [aj, aZ] at hrel
    rw [kr] at hr
    have Bh : ∀ x' a' w', Post n n0 m w (fun e ρ' st' => (fun r => K r.1 r.2.1 r.2.2) (e, aB (keys ρ) ρ', trim (real c).plain (dD st 0) (aB (keys ρ) ρ') st')) r x' a' w' → Post n n0 m w K r x' a' w' := by
     rintro x' a' w' ⟨e, ρ', st', m', rfl, h1, h2, h3, h4, h5, h6⟩
     obtain ⟨m2, g1, g2, g3, g4⟩ := uz (n := dD st 0) h3 (by rw [yt hw]; exact Nat.le_refl _) h4 ((jL (keys ρ) ρ').rel h2)
     exact ⟨e, _, _, m2, rfl, h1, g3, g1, g2, h5, h6.sub g4.blks⟩
    cases b with
    | true => exact wpIn_mono (wpIn_cond_true (c := .tmp t) hrel (ihy hc.1 hs.1 (fun h => (hro h).1) (Fy he hb) hw hn hd hn0 hr)) Bh
    | false => exact wpIn_mono (wpIn_cond_false (c := .tmp t) hrel (ihz hc.2 hs.2 (fun h => (hro h).2) (Fy he hb) hw hn hd hn0 hr)) Bh
   ·rename_i hb
    rw [hb] at hrel; simp only [aj] at hrel
    obtain ⟨b, hrel⟩ := hrel
    have he' := (Hr ρ t).rel he
    obtain ⟨hr1, hr2⟩ := gB hr
    have Bh : ∀ x' a' w', Post n n0 m w (fun e ρ' st' => K e (aB (keys ρ) ρ') (trim (real c).plain (dD st 0) (aB (keys ρ) ρ') st')) r x' a' w' → Post n n0 m w K r x' a' w' := by
     rintro x' a' w' ⟨e, ρ', st', m', rfl, h1, h2, h3, h4, h5, h6⟩
     obtain ⟨m2, g1, g2, g3, g4⟩ := uz (n := dD st 0) h3 (by rw [yt hw]; exact Nat.le_refl _) h4 ((jL (keys ρ) ρ').rel h2)
     exact ⟨e, _, _, m2, rfl, h1, g3, g1, g2, h5, h6.sub g4.blks⟩
    cases b with
    | true => exact wpIn_mono (wpIn_cond_true (c := .tmp t) hrel (ihy hc.1 hs.1 (fun h => (hro h).1) he' hw hn hd hn0 hr1)) Bh
    | false => exact wpIn_mono (wpIn_cond_false (c := .tmp t) hrel (ihz hc.2 hs.2 (fun h => (hro h).2) he' hw hn hd hn0 hr2)) Bh
   ·cases hr
  ·cases hr
 | block id x ihx =>
  intro hc hs hro R K r ρ st a w m he hw hn hd hn0 hr
  simp only [exec] at hr
  simp only [jD] at hc
  refine wpIn_block (wpIn_mono (ihx hc hs hro he hw hn hd hn0 hr) ?_)
  rintro e' a' w' ⟨e, ρ', st', m', rfl, h1, h2, h3, h4, h5, h6⟩
  cases e with
  | normal => exact ⟨.normal, ρ', st', m', rfl, h1, h2, h3, h4, h5, h6⟩
  | ret => exact ⟨.ret, ρ', st', m', rfl, h1, h2, h3, h4, h5, h6⟩
  | exit i =>
   simp only [Ex.to, Exit.inBlock]
   dsimp only at h1
   cases hb : Nat.beq i id with
   | true =>
    have := Nat.eq_of_beq_eq_true hb
    rw [if_pos this]
    rw [hb] at h1
    exact ⟨.normal, ρ', st', m', rfl, h1, h2, h3, h4, h5, h6⟩
   | false =>
    have : i ≠ id := fun h => by subst h; rw [eY] at hb; cases hb
    rw [if_neg this]
    rw [hb] at h1
    exact ⟨.exit i, ρ', st', m', rfl, h1, h2, h3, h4, h5, h6⟩
 | loop x ihx =>
  intro hc hs hro R K r ρ st a w m he hw hn hd hn0 hr
  simp only [exec] at hr
  simp only [jD] at hc
  obtain ⟨⟨e0, ρ0, st0⟩, hit, hK⟩ := Option.bind_eq_some_iff.1 hr
  dsimp only at hK
  intro b k cs hrb hb hrm
  have hn1 : Il m.blk ≤ dD st 0 := by rw [yt hw]; exact Nat.le_refl _
  have key : ∀ (a1 : Act) (w1 : World) (m1 : Mt), Ext m w m1 w1 → aM m1 w1 ρ a1 → aO m1 st w1 → n ≤ a1.tmps.size → jT n0 m1 w1 a1.defers →
    ∃ e' a' w', Post n n0 m w K r e' a' w' ∧ ArrivesIn (Machine.fenced P (Fw ro)) P (lone (b.atR a1 (.code x :: .inLoop x :: k)) cs w1) b k cs e' a' w' := by
   refine iter.partial_correctness (dD st 0) (keys ρ) (fun ρ st => exec (real c) Γ an x ρ st fun e ρ st => some (e, ρ, st))
    (fun ρ st q => K q.1 q.2.1 q.2.2 = some r → ∀ (a1 : Act) (w1 : World) (m1 : Mt), Ext m w m1 w1 → aM m1 w1 ρ a1 → aO m1 st w1 → n ≤ a1.tmps.size → jT n0 m1 w1 a1.defers →
     ∃ e' a' w', Post n n0 m w K r e' a' w' ∧ ArrivesIn (Machine.fenced P (Fw ro)) P (lone (b.atR a1 (.code x :: .inLoop x :: k)) cs w1) b k cs e' a' w') ?_ ρ st (e0, ρ0, st0) hit hK
   intro it ih ρ1 st1 q hq hKq a1 w1 m1 hx1 he hw hn hd
   cases hx : exec (real c) Γ an x ρ1 st1 fun e ρ st => some (e, ρ, st) with
   | none => simp [hx] at hq
   | some q1 =>
    obtain ⟨e1, ρ2, st2⟩ := q1
    simp only [hx, Option.bind_eq_bind, Option.bind_some] at hq
    obtain ⟨e', a2, w2, ⟨e, ρ', st', m2, rfl, h1, h2, h3, h4, h5, h6⟩, harr⟩ := ihx hc hs hro he hw hn hd (Nat.le_trans hn0 hx1.size) hx b (.inLoop x :: k) cs hrb hb hrm
    simp only [Option.some.injEq, Prod.mk.injEq] at h1
    obtain ⟨rfl, rfl, rfl⟩ := h1
    obtain ⟨m3, f1, f2, f3, f4⟩ := uz (n := dD st 0) (hx1.trans h3) hn1 h4 ((jL (keys ρ) ρ').rel h2)
    cases e with
    | normal =>
     dsimp only at hq
     obtain ⟨e2, a3, w3, hpost, adZ⟩ := ih _ _ _ hq hKq a2 w2 m3 f1 f3 f2 h5 (h6.sub f4.blks)
     exact ⟨e2, a3, w3, hpost, .of_steps (StepsIn.trans harr (.one (fenced_calm hb hrm rfl) stepR_inLoop)) adZ⟩
    | exit i =>
     dsimp only at hq
     cases hq
     exact ⟨.exit i, a2, w2, ⟨.exit i, _, _, m3, rfl, hKq, f3, f1, f2, h5, h6.sub f4.blks⟩, .pass (x := .inLoop x) rfl (fun _ _ => .inl (by simp)) harr⟩
    | ret =>
     dsimp only at hq
     cases hq
     exact ⟨.ret, a2, w2, ⟨.ret, _, _, m3, rfl, hKq, f3, f1, f2, h5, h6.sub f4.blks⟩, .pass (x := .inLoop x) rfl (fun _ _ => .inl (by simp)) harr⟩
  obtain ⟨e', a', w', hq, harr⟩ := key a w m (Ext.refl m w) he hw hn hd
  exact ⟨e', a', w', hq, .of_steps (.one (fenced_calm hb hrm rfl) stepR_loop) harr⟩
end
end Go.X
