/- A region in text order. -/
import Derived.Test.YtdmpjlpkmokllaaDoorXMono
import Derived.Test.YtdmpjlpkmokllaaDoorXOp4
import Derived.Tactics
import Derived.TacticsIn
import Derived.RangeFuncRecord
import Derived.OrdersIn
import Derived.LoopN
import Derived.StillTail
namespace Go.X
open Go
set_option linter.unusedSectionVars false
set_option linter.unusedSimpArgs false
set_option linter.unusedVariables false
variable [Sites]

def OpsOK (P : Program) (Γ : Tab) (c : CF) : Prop := ∀ {R : Type} {an : Ann} {ρ : Env} {st : St} {o : Oper} {a : Act} {w : World} {m : Mt} {K : PV → St → Option R} {r : R},
  EnvRel m w ρ a → WRel m st w → evalOp (real c) Γ an ρ st o.dst o.op K = some r → Goes P o a w m K r

/-- Static: every slot is one of the frame; a guard is on a value. -/
def operOK (n : Nat) (ops : List Oper) (o : Oper) : Bool :=
  (match o.dst with | some d => Nat.blt d n | none => true) &&
  (match o.guard with | some (j, _) => (match ops[j]? with | some q => (match q.dst with | some _ => true | none => false) | none => false) | none => true)
/-- Static: a region whose order is drawn may be run in text order. -/
def distinct : List Oper → Bool
  | [] => true
  | o :: r => (match o.dst with | some d => (r.all fun q => (match q.dst with | some e => !(Nat.beq d e) | none => true)) | none => true) && distinct r
def stillAll (ops : List Oper) : Nat → List Oper → Bool
  | _, [] => true
  | k, o :: r => (still o.op || barB ops k) && stillAll ops (k + 1) r
def drawnOK (ops : Array Oper) : Bool :=
  Region.lexB .any ops && distinct ops.toList && stillAll ops.toList 0 ops.toList
/-- No loop over a function. -/
def noRng : Code → Bool
  | .seq a b => noRng a && noRng b
  | .cond _ a b => noRng a && noRng b
  | .block _ a => noRng a
  | .loop a => noRng a
  | .rangeFunc _ _ _ _ => false
  | _ => true
/-- The code of its loops over functions is kept where it is said. -/
def sitesOK (an : Ann) (n : Nat) : Code → Prop
  | .seq a b => sitesOK an n a ∧ sitesOK an n b
  | .cond _ a b => sitesOK an n a ∧ sitesOK an n b
  | .block _ a => sitesOK an n a
  | .loop a => sitesOK an n a
  | .rangeFunc g ps a b => ∃ t q, g = .tmp t ∧ Sites.site (an.site t) = some q ∧ q.n ≤ n ∧ q.ps = ps.toList ∧ q.asg = a ∧ q.body = b
  | _ => True
theorem sites_none {an : Ann} {n : Nat} : ∀ {co : Code}, noRng co = true → sitesOK an n co := by
  intro co
  induction co with
  | seq a b iha ihb => intro h; simp only [noRng, Bool.and_eq_true] at h; exact ⟨iha h.1, ihb h.2⟩
  | cond x a b iha ihb => intro h; simp only [noRng, Bool.and_eq_true] at h; exact ⟨iha h.1, ihb h.2⟩
  | block id a iha => intro h; exact iha h
  | loop a iha => intro h; exact iha h
  | rangeFunc => intro h; simp [noRng] at h
  | _ => intro _; simp only [sitesOK]
def codeOK (n : Nat) : Code → Bool
  | .region _ ops drawn => ops.toList.all (operOK n ops.toList) && (!drawn || drawnOK ops)
  | .seq a b => codeOK n a && codeOK n b
  | .cond _ a b => codeOK n a && codeOK n b
  | .block _ a => codeOK n a
  | .loop a => codeOK n a
  | .rangeFunc _ ps a b => ps.toList.all (fun t => Nat.blt t n) && codeOK n a && codeOK n b
  | _ => true

theorem EnvLe.trans {a b c : Env} (h : EnvLe a b) (k : EnvLe b c) : EnvLe a c := fun t => by
  rcases h t with h | h
  · rw [h]; exact k t
  · exact .inr h
theorem egt_delL : ∀ (l : List Nat) (ρ : Env), EnvLe (delL l ρ) ρ
  | [], ρ => fun t => .inl rfl
  | x :: r, ρ => (egt_delL r (del ρ x)).trans (egt_del ρ x)
theorem EnvRel.est_ {m : Mt} {w : World} {ρ : Env} {a : Act} {x : PV} {d : Nat} (he : EnvRel m w ρ a) (hv : VRel m.blk m.cl w x (a.tmps.getD d undef)) : EnvRel m w (est ρ d x) a := fun t => by
  rw [egt_est]
  by_cases h : d = t
  · subst h; simpa using hv
  · rw [if_neg h]; exact he t
theorem put_size (a : Act) (d : Option Nat) (v : Value) : (a.put d v).tmps.size = a.tmps.size := by cases d <;> simp [Act.put]
theorem put_defers (a : Act) (d : Option Nat) (v : Value) : (a.put d v).defers = a.defers := by cases d <;> simp [Act.put]

theorem operOK_dst {n : Nat} {ops : List Oper} {o : Oper} (h : operOK n ops o = true) : ∀ d, o.dst = some d → d < n := by
  intro d hd
  simp only [operOK, hd, Bool.and_eq_true] at h
  exact Nat.lt_of_lt_of_le (Nat.le_of_ble_eq_true h.1) (Nat.le_refl _)
theorem operOK_guard {n : Nat} {ops : List Oper} {o : Oper} (h : operOK n ops o = true) : ∀ j want, o.guard = some (j, want) → ∃ q d, ops[j]? = some q ∧ q.dst = some d := by
  intro j want hg
  simp only [operOK, hg, Bool.and_eq_true] at h
  have := h.2
  split at this
  · rename_i q hq
    split at this
    · rename_i d hd; exact ⟨q, d, hq, hd⟩
    · cases this
  · cases this
theorem getD_bool {a : Act} {d : Nat} {b : Bool} (h : a.tmps.getD d undef = .bool b) : a.tmps[d]? = some (.bool b) := by
  rcases Nat.lt_or_ge d a.tmps.size with h' | h'
  · simp [h'] at h ⊢; exact h
  · simp [Array.getElem?_eq_none h', undef] at h
theorem wanted_bool {ops : Array Oper} {a : Act} {o : Oper} {j d : Nat} {want b : Bool} {q : Oper} (hg : o.guard = some (j, want)) (hq : ops[j]? = some q) (hd : q.dst = some d) (h : a.tmps.getD d undef = .bool b) :
    Region.wanted o (yielded ops a.tmps) = (b == want) := by
  simp [Region.wanted, hg, yielded, hq, hd, getD_bool h]
theorem wanted_skip {ops : Array Oper} {a : Act} {o : Oper} {j d : Nat} {want : Bool} {q : Oper} (hg : o.guard = some (j, want)) (hq : ops[j]? = some q) (hd : q.dst = some d) (h : a.tmps.getD d undef = undef) :
    Region.wanted o (yielded ops a.tmps) = false := by
  have : yielded ops a.tmps j = none := by
    unfold yielded
    rcases Nat.lt_or_ge d a.tmps.size with h' | h'
    · have h2 : a.tmps[d]? = some (.tuple #[]) := by simp [h', undef] at h ⊢; exact h
      simp [hq, hd, h2]
    · simp [hq, hd, Array.getElem?_eq_none h']
  simp [Region.wanted, hg, this]

section
variable {R : Type} {P : Program} {Γ : Tab} {c : CF} (hok : OpsOK P Γ c) {an : Ann} {n : Nat} {ops : Array Oper} {Q : Exit → Act → World → Prop} {ro : Option Nat}
include hok

theorem runOps_list {K : Env → St → Option R} {r : R} : ∀ (l : List Oper) (k : Nat) (ρ : Env) (st : St) (a : Act) (w : World) (m : Mt),
    (∀ o ∈ l, operOK n ops.toList o = true) → EnvRel m w ρ a → WRel m st w → n ≤ a.tmps.size → runOps (real c) Γ an (xOps an false ops.toList k l) ρ st K = some r →
    (∀ ρ' st' a' w' m', K ρ' st' = some r → EnvRel m' w' ρ' a' → Ext m w m' w' → WRel m' st' w' → n ≤ a'.tmps.size → a'.defers = a.defers → Q .normal a' w') → wpListIn (Fw ro) 0 P ops Q l a w
  | [], k, ρ, st, a, w, m, hl, he, hw, hn, hr, hQ => by
    simp only [xOps, runOps] at hr
    exact wpListIn_nil (hQ ρ st a w m hr he (Ext.refl m w) hw hn rfl)
  | o :: l, k, ρ, st, a, w, m, hl, he, hw, hn, hr, hQ => by
    have ho := hl o (by simp)
    have hd := operOK_dst ho
    refine wpListIn_step fun N hN => ?_
    have go : ∀ (ρ : Env), EnvRel m w ρ a → evalOp (real c) Γ an ρ st o.dst o.op (sealK (real c) false st fun v st => runOps (real c) Γ an (xOps an false ops.toList (k + 1) l) (delL (deadOf an false o.dst) (putD ρ o.dst v)) st K) = some r → o.wpIn (Fw ro) 0 P a w N Q := by
      intro ρ he hr
      refine hok he hw hr N Q (fun pv st' m' w' v hK hx hw' hv => hN _ _ ?_) ro
      simp only [sealK, cond_false] at hK
      refine runOps_list l (k + 1) _ _ _ _ _ (fun o h => hl o (by simp [h])) ((egt_delL _ _).rel ((he.ext hx).putD hv (fun d h => Nat.lt_of_lt_of_le (hd d h) hn))) hw' (by rw [put_size]; exact hn) hK ?_
      intro ρ' st'' a' w'' m'' h1 h2 h3 h4 h5 h6
      exact hQ ρ' st'' a' w'' m'' h1 h2 (hx.trans h3) h4 h5 (by rw [h6, put_defers])
    have no : ∀ (ρ : Env), EnvRel m w ρ a → runOps (real c) Γ an (xOps an false ops.toList (k + 1) l) (delL (deadOf an false o.dst) (putD ρ o.dst .skip)) st K = some r → N (a.put o.dst undef) w := by
      intro ρ he hr
      refine hN _ _ ?_
      refine runOps_list l (k + 1) _ _ _ _ _ (fun o h => hl o (by simp [h])) ((egt_delL _ _).rel (he.putD (x := .skip) (v := undef) (by simp only [VRel]) (fun d h => Nat.lt_of_lt_of_le (hd d h) hn))) hw (by rw [put_size]; exact hn) hr ?_
      intro ρ' st'' a' w'' m'' h1 h2 h3 h4 h5 h6
      exact hQ ρ' st'' a' w'' m'' h1 h2 h3 h4 h5 (by rw [h6, put_defers])
    simp only [xOps, runOps, cond_false] at hr
    split at hr
    · rename_i hg
      have hgn : o.guard = none := by
        cases h : o.guard with
        | none => rfl
        | some q => obtain ⟨j, want⟩ := q; simp [h] at hg
      rw [if_pos (by simp [Region.wanted, hgn])]
      exact go ρ he hr
    · rename_i s want hg
      have hgs : ∃ j, o.guard = some (j, want) ∧ guardSlot ops.toList j = s := by
        cases h : o.guard with
        | none => simp [h] at hg
        | some q => obtain ⟨j, want'⟩ := q; simp [h] at hg; exact ⟨j, by rw [hg.2], hg.1⟩
      obtain ⟨j, hgj, hgs⟩ := hgs
      obtain ⟨q, d, hq, hqd⟩ := operOK_guard ho j want hgj
      have hs : s = d := by rw [← hgs]; simp [guardSlot, hq, hqd]
      subst hs
      have hq' : ops[j]? = some q := by simpa using hq
      have hrel := he s
      split at hr
      · rename_i b hb
        rw [hb] at hrel; simp only [VRel, DRel] at hrel
        have hwt := wanted_bool hgj hq' hqd hrel
        rw [hwt]
        cases b <;> cases want <;> simp only [cond_true, cond_false, Bool.not_true, Bool.not_false, Bool.true_eq_false, if_true, if_false] at hr ⊢
        · exact go _ (he.est_ (by simp only [VRel, DRel]; exact hrel)) hr
        · exact ⟨fun _ _ => trivial, no _ (he.est_ (by simp only [VRel, DRel]; exact hrel)) hr⟩
        · exact ⟨fun _ _ => trivial, no _ (he.est_ (by simp only [VRel, DRel]; exact hrel)) hr⟩
        · exact go _ (he.est_ (by simp only [VRel, DRel]; exact hrel)) hr
      · rename_i hb
        rw [hb] at hrel; simp only [VRel] at hrel
        rw [wanted_skip hgj hq' hqd hrel]
        exact ⟨fun _ _ => trivial, no ρ he hr⟩
      · cases hr

end
end Go.X
