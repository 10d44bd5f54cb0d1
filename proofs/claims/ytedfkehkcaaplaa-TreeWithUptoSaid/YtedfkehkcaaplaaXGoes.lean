/- Every operation. -/
import Derived.Test.YtedfkehkcaaplaaXEq
import Derived.Test.YtedfkehkcaaplaaXOp11
import Derived.Test.YtedfkehkcaaplaaXCall
namespace Go.X
open Go
set_option linter.unusedSectionVars false
set_option linter.unusedSimpArgs false
set_option linter.unusedVariables false
variable [fq]
theorem arP {P : Program} {Γ : Tab} (hΓ : fA P Γ) (c : CF) (hcf : UO P c) (hrd : Ta P c) : Dt P Γ c := by
 intro R an ρ st o a w m K r he hw h
 have h0 := h
 cases hop : o.op with
 | move x => rw [hop] at h; simp only [evalOp] at h; exact KN he hw (.inl hop) h
 | assign x => exact XL hΓ he hw hop h
 | pick q x y => rw [hop] at h; simp only [evalOp] at h; exact afo he hw hop h
 | box t x => exact agu hΓ he hw hop h
 | alloc t => exact aaI hΓ he hw hop h
 | load t x => rw [hop] at h; simp only [evalOp] at h; exact afp (cf := c) hΓ he hw hop h
 | store t x y => exact aaJ hΓ he hw hop h
 | fieldAddr t x f => rw [hop] at h; simp only [evalOp] at h; exact NI hΓ he hw hop h
 | field t x f => rw [hop] at h; simp only [evalOp] at h; exact aaA hΓ he hw hop h
 | indexAddr t x y => rw [hop] at h; simp only [evalOp] at h; exact NJ (cf := c) hΓ he hw hop h
 | index t x y => rw [hop] at h; simp only [evalOp] at h; exact aay (cf := c) hΓ he hw hop h
 | binOp op t x y ty =>
  rw [hop] at h; simp only [evalOp] at h
  cases hq : Γ.eqs t with
  | false =>
   rw [hq] at h
   cases hn : KH y with
   | true => rw [hn] at h; exact agh (cf := c) hΓ he hw hop hn h
   | false => rw [hn] at h; exact agi (cf := c) hΓ he hw hop h
  | true => rw [hq] at h; exact al3 (cf := c) hΓ he hw hop hq h
 | unOp op t x => rw [hop] at h; simp only [evalOp] at h; exact al1 (cf := c) he hw hop h
 | convert s d x => rw [hop] at h; simp only [evalOp] at h; exact Ul (cf := c) hΓ he hw hop h
 | build t parts => exact aaM hΓ he hw hop h
 | buildSlice t n parts => exact Ml hΓ he hw hop h
 | makeSlice t x y => exact NU hΓ he hw hop h
 | slice t x lo hi mx => exact aaT hΓ he hw hop h
 | makeFunc f first caps => exact R6 he hw hop h
 | makeMap t q => exact Uz hΓ he hw hop h
 | lookup t x y ok => exact XQ hΓ he hw hop h
 | mapUpdate t x y z => exact N7 hΓ he hw hop h
 | extract t i => rw [hop] at h; simp only [evalOp] at h; exact Um he hw hop h
 | nilCheck x => rw [hop] at h; simp only [evalOp] at h; exact R3 he hw hop h
 | call cl =>
  cases hc : cl.callee with
  | value f => exact goes_call hrd he hw hop hc hcf h
  | invoke x n => rw [hop] at h; simp [evalOp, hc] at h
  | builtin b =>
   rw [hop] at h
   simp only [evalOp, hc] at h
   split at h
   ·rename_i v t hv ht; exact agF (cf := c) hΓ he hw hop hc hv ht h
   ·rename_i v t hv ht; exact agG (cf := c) hΓ he hw hop hc hv ht h
   ·rename_i s x t t' hv ht
    split at h
    ·rename_i e sz E9 e2 sz2 by2 hty hty'
     exact afA (XV (cf := c) hΓ he hw hop hc hv ht hty hty' h)
    ·rename_i e sz E9 hty hty'
     split at h
     ·exact Mr (cf := c) hΓ he hw hop hc hv ht hty hty' h
     ·cases h
    ·cases h
   ·rename_i mm k t t' hv ht; exact XR (cf := c) hΓ he hw hop hc hv ht h
   ·rename_i l i k lo t hv ht; exact aaU (cf := c) hΓ he hw hop hc hv ht h
   ·rename_i k x k' y hv; exact agH (cf := c) he hw hop hc hv h
   ·rename_i k x k' y hv; exact agI (cf := c) he hw hop hc hv h
   ·cases h
 | _ => rw [hop] at h; simp [evalOp] at h
theorem sound {P : Program} {S : Sys} (hs : yw P S) : UO P (call S) := aa5 hs fun c hc hr => arP hs.tab c hc hr
end Go.X
