/- T -/
import Derived.Test.YtedfkehkcaaplaaXEq
import Derived.Test.YtedfkehkcaaplaaXOp11
import Derived.Test.YtedfkehkcaaplaaXCall
namespace Go.X
open Go
set_option linter.unusedVariables false
variable [bY]
theorem abO {P : Program} {Γ : Tab} (hΓ : cZ P Γ) (c : CF) (hcf : IC P c) (hrd : FT P c) : qO P Γ c := by
 intro R an ρ st o a w m K r he hw h
 have h0 := h
 cases hop : o.op with
 | move x => rw [hop] at h; simp only [evalOp] at h; exact zw he hw (.inl hop) h
 | assign x => exact KI hΓ he hw hop h
 | pick q x y => rw [hop] at h; simp only [evalOp] at h; exact QW he hw hop h
 | box t x => exact Te hΓ he hw hop h
 | alloc t => exact Nv hΓ he hw hop h
 | load t x => rw [hop] at h; simp only [evalOp] at h; exact QX (cf := c) hΓ he hw hop h
 | store t x y => exact Nw hΓ he hw hop h
 | fieldAddr t x f => rw [hop] at h; simp only [evalOp] at h; exact Cj hΓ he hw hop h
 | field t x f => rw [hop] at h; simp only [evalOp] at h; exact Nl hΓ he hw hop h
 | indexAddr t x y => rw [hop] at h; simp only [evalOp] at h; exact Ck (cf := c) hΓ he hw hop h
 | index t x y => rw [hop] at h; simp only [evalOp] at h; exact Nj (cf := c) hΓ he hw hop h
 | binOp op t x y ty =>
  rw [hop] at h; simp only [evalOp] at h
  cases hq : Γ.eqs t with
  | false =>
   rw [hq] at h
   cases hn : zm y with
   | true => rw [hn] at h; exact SK (cf := c) hΓ he hw hop hn h
   | false => rw [hn] at h; exact SL (cf := c) hΓ he hw hop h
  | true => rw [hq] at h; exact Xz (cf := c) hΓ he hw hop hq h
 | unOp op t x => rw [hop] at h; simp only [evalOp] at h; exact Xw (cf := c) he hw hop h
 | convert s d x => rw [hop] at h; simp only [evalOp] at h; exact Ht (cf := c) hΓ he hw hop h
 | build t parts => exact NA hΓ he hw hop h
 | buildSlice t n parts => exact Bd hΓ he hw hop h
 | makeSlice t x y => exact Cv hΓ he hw hop h
 | slice t x lo hi mx => exact NK hΓ he hw hop h
 | makeFunc f first caps => exact EW he hw hop h
 | makeMap t q => exact Ih hΓ he hw hop h
 | lookup t x y ok => exact KM hΓ he hw hop h
 | mapUpdate t x y z => exact CG hΓ he hw hop h
 | extract t i => rw [hop] at h; simp only [evalOp] at h; exact Hu he hw hop h
 | nilCheck x => rw [hop] at h; simp only [evalOp] at h; exact ES he hw hop h
 | call cl =>
  cases hc : cl.callee with
  | value f => exact goes_call hrd he hw hop hc hcf h
  | invoke x n => rw [hop] at h; simp [evalOp, hc] at h
  | builtin b =>
   rw [hop] at h
   simp only [evalOp, hc] at h
   split at h
   ·rename_i v t hv ht; exact Tv (cf := c) hΓ he hw hop hc hv ht h
   ·rename_i v t hv ht; exact Tw (cf := c) hΓ he hw hop hc hv ht h
   ·rename_i s x t t' hv ht
    split at h
    ·rename_i e sz vX e2 sz2 by2 hty hty'
     exact Rm (KP (cf := c) hΓ he hw hop hc hv ht hty hty' h)
    ·rename_i e sz vX hty hty'
     split at h
     ·exact Bg (cf := c) hΓ he hw hop hc hv ht hty hty' h
     ·cases h
    ·cases h
   ·rename_i mm k t t' hv ht; exact KN (cf := c) hΓ he hw hop hc hv ht h
   ·rename_i l i k lo t hv ht; exact NM (cf := c) hΓ he hw hop hc hv ht h
   ·rename_i k x k' y hv; exact Tx (cf := c) he hw hop hc hv h
   ·rename_i k x k' y hv; exact Tz (cf := c) he hw hop hc hv h
   ·cases h
 | _ => rw [hop] at h; simp [evalOp] at h
theorem sound {P : Program} {S : Sys} (hs : pW P S) : IC P (call S) := Od hs fun c hc hr => abO hs.tab c hc hr
end Go.X
