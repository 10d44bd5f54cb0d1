/- T -/
import Derived.Test.YtedfkehkcaaplaaXMono
import Derived.Test.YtedfkehkcaaplaaXOp4
import Derived.Tactics
import Derived.TacticsIn
import Derived.RangeFuncRecord
import Derived.OrdersIn
import Derived.LoopN
import Derived.StillTail
namespace Go.X
open Go
set_option linter.unusedVariables false
variable [bY]
def qO (P : Program) (Γ : Tab) (c : CF) : Prop := ∀ {R : Type} {an : iG} {ρ : Env} {st : St} {o : Oper} {a : Act} {w : World} {m : Mt} {K : PV → St → Option R} {r : R},
 aM m w ρ a → aO m st w → evalOp (real c) Γ an ρ st o.dst o.op K = some r → Goes P o a w m K r
def lT (n : Nat) (ops : List Oper) (o : Oper) : Bool :=
 (match o.dst with | some d => Nat.blt d n | none => true) &&
 (match o.guard with | some (j, _) => (match ops[j]? with | some q => (match q.dst with | some _ => true | none => false) | none => false) | none => true)
def distinct : List Oper → Bool
 | [] => true
 | o :: r => (match o.dst with | some d => (r.all fun q => (match q.dst with | some e => !(Nat.beq d e) | none => true)) | none => true) && distinct r
def NP (ops : List Oper) : Bool :=
 lH ops 0 (ops.take (tN ops)) && (ops.drop (tN ops)).all fun o => (match o.guard with | none => true | some _ => false)
def sw (ops : Array Oper) : Bool :=
 Region.lexB .any ops && distinct ops.toList && (lH ops.toList 0 ops.toList || NP ops.toList || (match Ce ops.toList with | none => false | some _ => true))
def nD : Code → Bool
 | .seq a b => nD a && nD b
 | .cond _ a b => nD a && nD b
 | .block _ a => nD a
 | .loop a => nD a
 | .rangeFunc _ _ _ _ => false
 | _ => true
def iU (an : iG) (n : Nat) : Code → Prop
 | .seq a b => iU an n a ∧ iU an n b
 | .cond _ a b => iU an n a ∧ iU an n b
 | .block _ a => iU an n a
 | .loop a => iU an n a
 | .rangeFunc g ps a b => ∃ t q, g = .tmp t ∧ bY.site (an.site t) = some q ∧ q.n ≤ n ∧ q.ps = ps.toList ∧ q.BS = a ∧ q.body = b
 | _ => True
theorem wP {an : iG} {n : Nat} : ∀ {co : Code}, nD co = true → iU an n co := by
 intro co
 induction co with
 | seq a b iha ihb => intro h; simp only [nD, Bool.and_eq_true] at h; exact ⟨iha h.1, ihb h.2⟩
 | cond x a b iha ihb => intro h; simp only [nD, Bool.and_eq_true] at h; exact ⟨iha h.1, ihb h.2⟩
 | block id a iha => intro h; exact iha h
 | loop a iha => intro h; exact iha h
 | rangeFunc => intro h; simp [nD] at h
 | _ => intro _; simp only [iU]
def jD (n : Nat) : Code → Bool
 | .region _ ops drawn => ops.toList.all (lT n ops.toList) && (!drawn || sw ops)
 | .seq a b => jD n a && jD n b
 | .cond _ a b => jD n a && jD n b
 | .block _ a => jD n a
 | .loop a => jD n a
 | .rangeFunc _ ps a b => ps.toList.all (fun t => Nat.blt t n) && jD n a && jD n b
 | _ => true
theorem xL.trans {a b c : Env} (h : xL a b) (k : xL b c) : xL a c := fun t => by
 rcases h t with h | h
 ·rw [h]; exact k t
 ·exact .inr h
theorem CU : ∀ (l : List Nat) (ρ : Env), xL (wG l ρ) ρ
 | [], ρ => fun t => .inl rfl
 | x :: r, ρ => (CU r (del ρ x)).trans (Hr ρ x)
theorem aM.XL {m : Mt} {w : World} {ρ : Env} {a : Act} {x : PV} {d : Nat} (he : aM m w ρ a) (hv : aj m.blk m.cl w x (a.tmps.getD d undef)) : aM m w (est ρ d x) a := fun t => by
 rw [rT]
 by_cases h : d = t
 ·subst h; simpa using hv
 ·rw [if_neg h]; exact he t
theorem oJ (a : Act) (d : Option Nat) (v : Value) : (a.put d v).tmps.size = a.tmps.size := by cases d <;> simp [Act.put]
theorem put_defers (a : Act) (d : Option Nat) (v : Value) : (a.put d v).defers = a.defers := by cases d <;> simp [Act.put]
theorem sD {n : Nat} {ops : List Oper} {o : Oper} (h : lT n ops o = true) : ∀ d, o.dst = some d → d < n := by
 intro d hd
 simp only [lT, hd, Bool.and_eq_true] at h
 exact Nat.lt_of_lt_of_le (Nat.le_of_ble_eq_true h.1) (Nat.le_refl _)
theorem nS {n : Nat} {ops : List Oper} {o : Oper} (h : lT n ops o = true) : ∀ j want, o.guard = some (j, want) → ∃ q d, ops[j]? = some q ∧ q.dst = some d := by
 intro j want hg
 simp only [lT, hg, Bool.and_eq_true] at h
 have := h.2
 split at this
 ·rename_i q hq
  split at this
  ·rename_i d hd; exact ⟨q, d, hq, hd⟩
  ·cases this
 ·cases this
theorem Rp {a : Act} {d : Nat} {b : Bool} (h : a.tmps.getD d undef = .bool b) : a.tmps[d]? = some (.bool b) := by
 rcases Nat.lt_or_ge d a.tmps.size with h' | h'
 ·simp [h'] at h ⊢; exact h
 ·simp [Array.getElem?_eq_none h', undef] at h
theorem nE {ops : Array Oper} {a : Act} {o : Oper} {j d : Nat} {want b : Bool} {q : Oper} (hg : o.guard = some (j, want)) (hq : ops[j]? = some q) (hd : q.dst = some d) (h : a.tmps.getD d undef = .bool b) :
  Region.wanted o (yielded ops a.tmps) = (b == want) := by
 simp [Region.wanted, hg, yielded, hq, hd, Rp h]
theorem uF {ops : Array Oper} {a : Act} {o : Oper} {j d : Nat} {want : Bool} {q : Oper} (hg : o.guard = some (j, want)) (hq : ops[j]? = some q) (hd : q.dst = some d) (h : a.tmps.getD d undef = undef) :
  Region.wanted o (yielded ops a.tmps) = false := by
 have : yielded ops a.tmps j = none := by
  unfold yielded
  rcases Nat.lt_or_ge d a.tmps.size with h' | h'
  ·have h2 : a.tmps[d]? = some (.tuple #[]) := by simp [h', undef] at h ⊢; exact h
   simp [hq, hd, h2]
  ·simp [hq, hd, Array.getElem?_eq_none h']
 simp [Region.wanted, hg, this]
section
variable {R : Type} {P : Program} {Γ : Tab} {c : CF} (hok : qO P Γ c) {an : iG} {n : Nat} {ops : Array Oper} {Q : Exit → Act → World → Prop} {ro : Option Nat}
include hok
theorem uG {K : Env → St → Option R} {r : R} : ∀ (l : List Oper) (k : Nat) (ρ : Env) (st : St) (a : Act) (w : World) (m : Mt),
  (∀ o ∈ l, lT n ops.toList o = true) → aM m w ρ a → aO m st w → n ≤ a.tmps.size → dG (real c) Γ an (nQ an false ops.toList k l) ρ st K = some r →
  (∀ ρ' st' a' w' m', K ρ' st' = some r → aM m' w' ρ' a' → Ext m w m' w' → aO m' st' w' → n ≤ a'.tmps.size → a'.defers = a.defers → Q .normal a' w') → wpListIn (Fw ro) 0 P ops Q l a w
 | [], k, ρ, st, a, w, m, hl, he, hw, hn, hr, hQ => by
  simp only [nQ, dG] at hr
  exact wpListIn_nil (hQ ρ st a w m hr he (Ext.refl m w) hw hn rfl)
 | o :: l, k, ρ, st, a, w, m, hl, he, hw, hn, hr, hQ => by
  have ho := hl o (by simp)
  have hd := sD ho
  refine wpListIn_step fun N hN => ?_
  have go : ∀ (ρ : Env), aM m w ρ a → evalOp (real c) Γ an ρ st o.dst o.op (mH (real c) false st fun v st => dG (real c) Γ an (nQ an false ops.toList (k + 1) l) (wG (Hg an false o.dst) (oh ρ o.dst v)) st K) = some r → o.wpIn (Fw ro) 0 P a w N Q := by
   intro ρ he hr
   refine hok he hw hr N Q (fun pv st' m' w' v hK hx hw' hv => hN _ _ ?_) ro
   simp only [mH, cond_false] at hK
   refine uG l (k + 1) _ _ _ _ _ (fun o h => hl o (by simp [h])) ((CU _ _).rel ((he.ext hx).oh hv (fun d h => Nat.lt_of_lt_of_le (hd d h) hn))) hw' (by rw [oJ]; exact hn) hK ?_
   intro ρ' Hl a' w'' m'' h1 h2 h3 h4 h5 h6
   exact hQ ρ' Hl a' w'' m'' h1 h2 (hx.trans h3) h4 h5 (by rw [h6, put_defers])
  have no : ∀ (ρ : Env), aM m w ρ a → dG (real c) Γ an (nQ an false ops.toList (k + 1) l) (wG (Hg an false o.dst) (oh ρ o.dst .skip)) st K = some r → N (a.put o.dst undef) w := by
   intro ρ he hr
   refine hN _ _ ?_
   refine uG l (k + 1) _ _ _ _ _ (fun o h => hl o (by simp [h])) ((CU _ _).rel (he.oh (x := .skip) (v := undef) (by simp only [aj]) (fun d h => Nat.lt_of_lt_of_le (hd d h) hn))) hw (by rw [oJ]; exact hn) hr ?_
   intro ρ' Hl a' w'' m'' h1 h2 h3 h4 h5 h6
   exact hQ ρ' Hl a' w'' m'' h1 h2 h3 h4 h5 (by rw [h6, put_defers])
  simp only [nQ, dG, cond_false] at hr
  split at hr
  ·rename_i hg
   have hgn : o.guard = none := by
    cases h : o.guard with
    | none => rfl
    | some q => obtain ⟨j, want⟩ := q; simp [h] at hg
   rw [if_pos (by simp [Region.wanted, hgn])]
   exact go ρ he hr
  ·rename_i s want hg
   have hgs : ∃ j, o.guard = some (j, want) ∧ dX ops.toList j = s := by
    cases h : o.guard with
    | none => simp [h] at hg
    | some q => obtain ⟨j, want'⟩ := q; simp [h] at hg; exact ⟨j, by rw [hg.2], hg.1⟩
   obtain ⟨j, hgj, hgs⟩ := hgs
   obtain ⟨q, d, hq, BA⟩ := nS ho j want hgj
   have hs : s = d := by rw [← hgs]; simp [dX, hq, BA]
   subst hs
   have hq' : ops[j]? = some q := by simpa using hq
   have hrel := he s
   split at hr
   ·rename_i b hb
    rw [hb] at hrel; simp only [aj, aZ] at hrel
    have hwt := nE hgj hq' BA hrel
    rw [hwt]
    cases b <;> cases want <;> simp only [cond_true, cond_false, Bool.not_true, Bool.not_false, Bool.true_eq_false, if_true, if_false] at hr ⊢
    ·exact go _ (he.XL (by simp only [aj, aZ]; exact hrel)) hr
    ·exact ⟨fun _ _ => trivial, no _ (he.XL (by simp only [aj, aZ]; exact hrel)) hr⟩
    ·exact ⟨fun _ _ => trivial, no _ (he.XL (by simp only [aj, aZ]; exact hrel)) hr⟩
    ·exact go _ (he.XL (by simp only [aj, aZ]; exact hrel)) hr
   ·rename_i hb
    rw [hb] at hrel; simp only [aj] at hrel
    rw [uF hgj hq' BA hrel]
    exact ⟨fun _ _ => trivial, no ρ he hr⟩
   ·cases hr
end
end Go.X
