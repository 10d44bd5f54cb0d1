/- A region in text order. -/
import Derived.Test.YtipkggkbldgmjaaGreatXMono
import Derived.Test.YtipkggkbldgmjaaGreatXOp4
import Derived.Tactics
import Derived.TacticsIn
import Derived.RangeFuncRecord
import Derived.OrdersIn
import Derived.LoopN
import Derived.StillTail
namespace Go.X
open Go
set_option linter.unusedSectionVars false
set_option linter.unusedSimpArgs false
set_option linter.unusedVariables false
variable [eY]
def BO (P : Program) (Γ : Tab) (c : CF) : Prop := ∀ {R : Type} {an : kW} {ρ : Env} {st : St} {o : Oper} {a : Act} {w : World} {m : Mt} {K : PV → St → Option R} {r : R},
 bR m w ρ a → bS m st w → evalOp (real c) Γ an ρ st o.dst o.op K = some r → Goes P o a w m K r
def wH (n : Nat) (ops : List Oper) (o : Oper) : Bool :=
 (match o.dst with | some d => Nat.blt d n | none => true) &&
 (match o.guard with | some (j, _) => (match ops[j]? with | some q => (match q.dst with | some _ => true | none => false) | none => false) | none => true)
def distinct : List Oper → Bool
 | [] => true
 | o :: r => (match o.dst with | some d => (r.all fun q => (match q.dst with | some e => !(Nat.beq d e) | none => true)) | none => true) && distinct r
def BP (ops : List Oper) : Nat → List Oper → Bool
 | _, [] => true
 | k, o :: r => (still o.op || zA ops k) && BP ops (k + 1) r
def Gh (ops : Array Oper) : Bool :=
 Region.lexB .any ops && distinct ops.toList && BP ops.toList 0 ops.toList
def nP : Code → Bool
 | .seq a b => nP a && nP b
 | .cond _ a b => nP a && nP b
 | .block _ a => nP a
 | .loop a => nP a
 | .rangeFunc _ _ _ _ => false
 | _ => true
def jy (an : kW) (n : Nat) : Code → Prop
 | .seq a b => jy an n a ∧ jy an n b
 | .cond _ a b => jy an n a ∧ jy an n b
 | .block _ a => jy an n a
 | .loop a => jy an n a
 | .rangeFunc g ps a b => ∃ t q, g = .tmp t ∧ eY.site (an.site t) = some q ∧ q.n ≤ n ∧ q.ps = ps.toList ∧ q.RD = a ∧ q.body = b
 | _ => True
theorem zJ {an : kW} {n : Nat} : ∀ {co : Code}, nP co = true → jy an n co := by
 intro co
 induction co with
 | seq a b iha ihb => intro h; simp only [nP, Bool.and_eq_true] at h; exact ⟨iha h.1, ihb h.2⟩
 | cond x a b iha ihb => intro h; simp only [nP, Bool.and_eq_true] at h; exact ⟨iha h.1, ihb h.2⟩
 | block id a iha => intro h; exact iha h
 | loop a iha => intro h; exact iha h
 | rangeFunc => intro h; simp [nP] at h
 | _ => intro _; simp only [jy]
def jZ (n : Nat) : Code → Bool
 | .region _ ops drawn => ops.toList.all (wH n ops.toList) && (!drawn || Gh ops)
 | .seq a b => jZ n a && jZ n b
 | .cond _ a b => jZ n a && jZ n b
 | .block _ a => jZ n a
 | .loop a => jZ n a
 | .rangeFunc _ ps a b => ps.toList.all (fun t => Nat.blt t n) && jZ n a && jZ n b
 | _ => true
theorem Br.trans {a b c : Env} (h : Br a b) (k : Br b c) : Br a c := fun t => by
 rcases h t with h | h
 ·rw [h]; exact k t
 ·exact .inr h
theorem Ih : ∀ (l : List Nat) (ρ : Env), Br (Bj l ρ) ρ
 | [], ρ => fun t => .inl rfl
 | x :: r, ρ => (Ih r (del ρ x)).trans (NK ρ x)
theorem bR.agq {m : Mt} {w : World} {ρ : Env} {a : Act} {x : PV} {d : Nat} (he : bR m w ρ a) (hv : ay m.blk m.cl w x (a.tmps.getD d undef)) : bR m w (est ρ d x) a := fun t => by
 rw [tq]
 by_cases h : d = t
 ·subst h; simpa using hv
 ·rw [if_neg h]; exact he t
theorem Ii (a : Act) (d : Option Nat) (v : Value) : (a.put d v).tmps.size = a.tmps.size := by cases d <;> simp [Act.put]
theorem put_defers (a : Act) (d : Option Nat) (v : Value) : (a.put d v).defers = a.defers := by cases d <;> simp [Act.put]
theorem Ij {n : Nat} {ops : List Oper} {o : Oper} (h : wH n ops o = true) : ∀ d, o.dst = some d → d < n := by
 intro d hd
 simp only [wH, hd, Bool.and_eq_true] at h
 exact Nat.lt_of_lt_of_le (Nat.le_of_ble_eq_true h.1) (Nat.le_refl _)
theorem BQ {n : Nat} {ops : List Oper} {o : Oper} (h : wH n ops o = true) : ∀ j want, o.guard = some (j, want) → ∃ q d, ops[j]? = some q ∧ q.dst = some d := by
 intro j want hg
 simp only [wH, hg, Bool.and_eq_true] at h
 have := h.2
 split at this
 ·rename_i q hq
  split at this
  ·rename_i d hd; exact ⟨q, d, hq, hd⟩
  ·cases this
 ·cases this
theorem ZR {a : Act} {d : Nat} {b : Bool} (h : a.tmps.getD d undef = .bool b) : a.tmps[d]? = some (.bool b) := by
 rcases Nat.lt_or_ge d a.tmps.size with h' | h'
 ·simp [h'] at h ⊢; exact h
 ·simp [Array.getElem?_eq_none h', undef] at h
theorem wI {ops : Array Oper} {a : Act} {o : Oper} {j d : Nat} {want b : Bool} {q : Oper} (hg : o.guard = some (j, want)) (hq : ops[j]? = some q) (hd : q.dst = some d) (h : a.tmps.getD d undef = .bool b) :
  Region.wanted o (yielded ops a.tmps) = (b == want) := by
 simp [Region.wanted, hg, yielded, hq, hd, ZR h]
theorem Fv {ops : Array Oper} {a : Act} {o : Oper} {j d : Nat} {want : Bool} {q : Oper} (hg : o.guard = some (j, want)) (hq : ops[j]? = some q) (hd : q.dst = some d) (h : a.tmps.getD d undef = undef) :
  Region.wanted o (yielded ops a.tmps) = false := by
 have : yielded ops a.tmps j = none := by
  unfold yielded
  rcases Nat.lt_or_ge d a.tmps.size with h' | h'
  ·have h2 : a.tmps[d]? = some (.tuple #[]) := by simp [h', undef] at h ⊢; exact h
   simp [hq, hd, h2]
  ·simp [hq, hd, Array.getElem?_eq_none h']
 simp [Region.wanted, hg, this]
section
variable {R : Type} {P : Program} {Γ : Tab} {c : CF} (hok : BO P Γ c) {an : kW} {n : Nat} {ops : Array Oper} {Q : Exit → Act → World → Prop} {ro : Option Nat}
include hok
theorem wJ {K : Env → St → Option R} {r : R} : ∀ (l : List Oper) (k : Nat) (ρ : Env) (st : St) (a : Act) (w : World) (m : Mt),
  (∀ o ∈ l, wH n ops.toList o = true) → bR m w ρ a → bS m st w → n ≤ a.tmps.size → fT (real c) Γ an (rQ an false ops.toList k l) ρ st K = some r →
  (∀ ρ' st' a' w' m', K ρ' st' = some r → bR m' w' ρ' a' → Ext m w m' w' → bS m' st' w' → n ≤ a'.tmps.size → a'.defers = a.defers → Q .normal a' w') → wpListIn (Fw ro) 0 P ops Q l a w
 | [], k, ρ, st, a, w, m, hl, he, hw, hn, hr, hQ => by
  simp only [rQ, fT] at hr
  exact wpListIn_nil (hQ ρ st a w m hr he (Ext.refl m w) hw hn rfl)
 | o :: l, k, ρ, st, a, w, m, hl, he, hw, hn, hr, hQ => by
  have ho := hl o (by simp)
  have hd := Ij ho
  refine wpListIn_step fun N hN => ?_
  have go : ∀ (ρ : Env), bR m w ρ a → evalOp (real c) Γ an ρ st o.dst o.op (vE (real c) false st fun v st => fT (real c) Γ an (rQ an false ops.toList (k + 1) l) (Bj (NH an false o.dst) (qA ρ o.dst v)) st K) = some r → o.wpIn (Fw ro) 0 P a w N Q := by
   intro ρ he hr
   refine hok he hw hr N Q (fun pv st' m' w' v hK hx hw' hv => hN _ _ ?_) ro
   simp only [vE, cond_false] at hK
   refine wJ l (k + 1) _ _ _ _ _ (fun o h => hl o (by simp [h])) ((Ih _ _).rel ((he.ext hx).qA hv (fun d h => Nat.lt_of_lt_of_le (hd d h) hn))) hw' (by rw [Ii]; exact hn) hK ?_
   intro ρ' NI a' w'' m'' h1 h2 h3 h4 h5 h6
   exact hQ ρ' NI a' w'' m'' h1 h2 (hx.trans h3) h4 h5 (by rw [h6, put_defers])
  have no : ∀ (ρ : Env), bR m w ρ a → fT (real c) Γ an (rQ an false ops.toList (k + 1) l) (Bj (NH an false o.dst) (qA ρ o.dst .skip)) st K = some r → N (a.put o.dst undef) w := by
   intro ρ he hr
   refine hN _ _ ?_
   refine wJ l (k + 1) _ _ _ _ _ (fun o h => hl o (by simp [h])) ((Ih _ _).rel (he.qA (x := .skip) (v := undef) (by simp only [ay]) (fun d h => Nat.lt_of_lt_of_le (hd d h) hn))) hw (by rw [Ii]; exact hn) hr ?_
   intro ρ' NI a' w'' m'' h1 h2 h3 h4 h5 h6
   exact hQ ρ' NI a' w'' m'' h1 h2 h3 h4 h5 (by rw [h6, put_defers])
  simp only [rQ, fT, cond_false] at hr
  split at hr
  ·rename_i hg
   have hgn : o.guard = none := by
    cases h : o.guard with
    | none => rfl
    | some q => obtain ⟨j, want⟩ := q; simp [h] at hg
   rw [if_pos (by simp [Region.wanted, hgn])]
   exact go ρ he hr
  ·rename_i s want hg
   have hgs : ∃ j, o.guard = some (j, want) ∧ jc ops.toList j = s := by
    cases h : o.guard with
    | none => simp [h] at hg
    | some q => obtain ⟨j, want'⟩ := q; simp [h] at hg; exact ⟨j, by rw [hg.2], hg.1⟩
   obtain ⟨j, hgj, hgs⟩ := hgs
   obtain ⟨q, d, hq, hqd⟩ := BQ ho j want hgj
   have hs : s = d := by rw [← hgs]; simp [jc, hq, hqd]
   subst hs
   have hq' : ops[j]? = some q := by simpa using hq
   have hrel := he s
   split at hr
   ·rename_i b hb
    rw [hb] at hrel; simp only [ay, bY] at hrel
    have hwt := wI hgj hq' hqd hrel
    rw [hwt]
    cases b <;> cases want <;> simp only [cond_true, cond_false, Bool.not_true, Bool.not_false, Bool.true_eq_false, if_true, if_false] at hr ⊢
    ·exact go _ (he.agq (by simp only [ay, bY]; exact hrel)) hr
    ·exact ⟨fun _ _ => trivial, no _ (he.agq (by simp only [ay, bY]; exact hrel)) hr⟩
    ·exact ⟨fun _ _ => trivial, no _ (he.agq (by simp only [ay, bY]; exact hrel)) hr⟩
    ·exact go _ (he.agq (by simp only [ay, bY]; exact hrel)) hr
   ·rename_i hb
    rw [hb] at hrel; simp only [ay] at hrel
    rw [Fv hgj hq' hqd hrel]
    exact ⟨fun _ _ => trivial, no ρ he hr⟩
   ·cases hr
end
end Go.X
