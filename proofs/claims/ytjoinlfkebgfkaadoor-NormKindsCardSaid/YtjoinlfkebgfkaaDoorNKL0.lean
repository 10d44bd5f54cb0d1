/- NormKinds: being alike is an equivalence, and looks at kind and name alone. -/
import Derived.Test.YtjoinlfkebgfkaaDoorNKO
import Derived.Test.YtjoinlfkebgfkaaDoorNKV
import Derived.ProofKit
namespace Go.Proofs.YtjoinlfkebgfkaaDoor
open Go Go.X
set_option linter.unusedVariables false
set_option linter.unusedSimpArgs false
set_option maxRecDepth 100000
theorem call_of {x : Option (PV × St)} {v : PV} {st : St} (h : Sat x (fun q => q = (v, st))) : x = some (v, st) := by
  obtain ⟨_, rfl, rfl⟩ := h; rfl
theorem alike_ok (fu : Nat) (k1 : ByteArray) (d1 : Int) (n1 : ByteArray) (v1 : Value) (k2 : ByteArray) (d2 : Int) (n2 : ByteArray) (v2 : Value) :
    P11 fu (Child.mk k1 d1 n1 v1) (Child.mk k2 d2 n2 v2) = some ((d1 == d2) && seq n1 n2) := by
  obtain ⟨a1, a2, a3, ⟨a4, a5⟩, ⟨a6, a7⟩, a8, a9, a10⟩ := v1
  obtain ⟨b1, b2, b3, ⟨b4, b5⟩, ⟨b6, b7⟩, b8, b9, b10⟩ := v2
  unfold P11
  dsimp only
  cases d1 == d2 <;> rfl
theorem seq_refl' (a : ByteArray) : seq a a = true := by simp [seq]
theorem seq_comm' (a b : ByteArray) : seq a b = seq b a := by unfold seq; exact BEq.comm
theorem normKinds_true (fu : Nat) (a b c : Child) : P5 fu a b c = some true := by
  obtain ⟨ak, ad, an, a1, a2, a3, ⟨a4, a5⟩, ⟨a6, a7⟩, a8, a9, a10⟩ := a
  obtain ⟨bk, bd, bn, b1, b2, b3, ⟨b4, b5⟩, ⟨b6, b7⟩, b8, b9, b10⟩ := b
  obtain ⟨ck, cd, cn, c1, c2, c3, ⟨c4, c5⟩, ⟨c6, c7⟩, c8, c9, c10⟩ := c
  unfold P5 P6
  dsimp only
  simp only [alike_ok, Option.bind_some, cond_true, seq_refl', beq_self_eq_true, Bool.and_self]
  have e1 : ((bd == ad) && seq bn an) = ((ad == bd) && seq an bn) := by rw [seq_comm' bn an, BEq.comm (a := bd)]
  rw [e1, beq_self_eq_true]
  simp only [cond_true, Bool.not_not]
  cases hx : ((ad == bd) && seq an bn) with
  | false => rfl
  | true =>
    cases hy : ((bd == cd) && seq bn cn) with
    | false => rfl
    | true =>
      have hz : ((ad == cd) && seq an cn) = true := by
        simp only [Bool.and_eq_true, beq_iff_eq, seq] at hx hy ⊢
        exact ⟨hx.1.trans hy.1, hx.2.trans hy.2⟩
      rw [hz]
      rfl
theorem law5 (ls : List (List D)) (h : WTs tab [34, 34, 34] ls) : call S 5 (argsPV tab [34, 34, 34] ls) [] = some (.d (.bool true), []) := by
  obtain ⟨l1, _, rfl, h1, l2, _, rfl, h2, l3, _, rfl, h3, rfl⟩ := h
  obtain ⟨a, rfl⟩ := wt_34 h1
  obtain ⟨b, rfl⟩ := wt_34 h2
  obtain ⟨c, rfl⟩ := wt_34 h3
  refine call_of (ok5 (fu := 0) rfl rfl (normKinds_true 0 a b c) ?_ [])
  obtain ⟨ak, ad, an, a1, a2, a3, ⟨a4, a5⟩, ⟨a6, a7⟩, a8, a9, a10⟩ := a
  obtain ⟨bk, bd, bn, b1, b2, b3, ⟨b4, b5⟩, ⟨b6, b7⟩, b8, b9, b10⟩ := b
  obtain ⟨ck, cd, cn, c1, c2, c3, ⟨c4, c5⟩, ⟨c6, c7⟩, c8, c9, c10⟩ := c
  rfl
end Go.Proofs.YtjoinlfkebgfkaaDoor
