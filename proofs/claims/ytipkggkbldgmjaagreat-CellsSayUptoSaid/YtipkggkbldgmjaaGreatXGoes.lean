/- Every operation. -/
import Derived.Test.YtipkggkbldgmjaaGreatXEq
import Derived.Test.YtipkggkbldgmjaaGreatXOp11
import Derived.Test.YtipkggkbldgmjaaGreatXCall
namespace Go.X
open Go
set_option linter.unusedSectionVars false
set_option linter.unusedSimpArgs false
set_option linter.unusedVariables false
variable [eY]
theorem akv {P : Program} {Γ : Tab} (hΓ : eO P Γ) (c : CF) (hcf : Ox P c) (hrd : LM P c) : BO P Γ c := by
 intro R an ρ st o a w m K r he hw h
 have h0 := h
 cases hop : o.op with
 | move x => rw [hop] at h; simp only [evalOp] at h; exact DZ he hw (.inl hop) h
 | assign x => exact R5 hΓ he hw hop h
 | pick q x y => rw [hop] at h; simp only [evalOp] at h; exact ZB he hw hop h
 | box t x => exact aaP hΓ he hw hop h
 | alloc t => exact UR hΓ he hw hop h
 | load t x => rw [hop] at h; simp only [evalOp] at h; exact ZC (cf := c) hΓ he hw hop h
 | store t x y => exact UU hΓ he hw hop h
 | fieldAddr t x f => rw [hop] at h; simp only [evalOp] at h; exact Hl hΓ he hw hop h
 | field t x f => rw [hop] at h; simp only [evalOp] at h; exact UJ hΓ he hw hop h
 | indexAddr t x y => rw [hop] at h; simp only [evalOp] at h; exact Ho (cf := c) hΓ he hw hop h
 | index t x y => rw [hop] at h; simp only [evalOp] at h; exact UG (cf := c) hΓ he hw hop h
 | binOp op t x y ty =>
  rw [hop] at h; simp only [evalOp] at h
  cases hq : Γ.eqs t with
  | false =>
   rw [hq] at h
   cases hn : DV y with
   | true => rw [hn] at h; exact aaD (cf := c) hΓ he hw hop hn h
   | false => rw [hn] at h; exact aaE (cf := c) hΓ he hw hop h
  | true => rw [hq] at h; exact agh (cf := c) hΓ he hw hop hq h
 | unOp op t x => rw [hop] at h; simp only [evalOp] at h; exact agd (cf := c) he hw hop h
 | convert s d x => rw [hop] at h; simp only [evalOp] at h; exact NM (cf := c) hΓ he hw hop h
 | build t parts => exact UZ hΓ he hw hop h
 | buildSlice t n parts => exact F4 hΓ he hw hop h
 | makeSlice t x y => exact Hz hΓ he hw hop h
 | slice t x lo hi mx => exact U8 hΓ he hw hop h
 | makeFunc f first caps => exact KX he hw hop h
 | makeMap t q => exact Oc hΓ he hw hop h
 | lookup t x y ok => exact R8 hΓ he hw hop h
 | mapUpdate t x y z => exact H8 hΓ he hw hop h
 | extract t i => rw [hop] at h; simp only [evalOp] at h; exact NP he hw hop h
 | nilCheck x => rw [hop] at h; simp only [evalOp] at h; exact KV he hw hop h
 | call cl =>
  cases hc : cl.callee with
  | value f => exact goes_call hrd he hw hop hc hcf h
  | invoke x n => rw [hop] at h; simp [evalOp, hc] at h
  | builtin b =>
   rw [hop] at h
   simp only [evalOp, hc] at h
   split at h
   ·rename_i v t hv ht; exact aa0 (cf := c) hΓ he hw hop hc hv ht h
   ·rename_i v t hv ht; exact aa1 (cf := c) hΓ he hw hop hc hv ht h
   ·rename_i s x t t' hv ht
    split at h
    ·rename_i e sz pz e2 sz2 by2 hty hty'
     exact Sc (cf := c) hΓ he hw hop hc hv ht hty hty' h
    ·rename_i e sz pz hty hty'
     split at h
     ·exact F6 (cf := c) hΓ he hw hop hc hv ht hty hty' h
     ·cases h
    ·cases h
   ·rename_i mm k t t' hv ht; exact R9 (cf := c) hΓ he hw hop hc hv ht h
   ·rename_i l i k lo t hv ht; exact U9 (cf := c) hΓ he hw hop hc hv ht h
   ·rename_i k x k' y hv; exact aa2 (cf := c) he hw hop hc hv h
   ·rename_i k x k' y hv; exact aa3 (cf := c) he hw hop hc hv h
   ·cases h
 | _ => rw [hop] at h; simp [evalOp] at h
theorem sound {P : Program} {S : Sys} (hs : vH P S) : Ox P (call S) := Vg hs fun c hc hr => akv hs.tab c hc hr
end Go.X
