/- Every operation. -/
import Derived.Test.YtdmpjlpkmokllaaDoorXEq
import Derived.Test.YtdmpjlpkmokllaaDoorXOp11
import Derived.Test.YtdmpjlpkmokllaaDoorXCall
namespace Go.X
open Go
set_option linter.unusedSectionVars false
set_option linter.unusedSimpArgs false
set_option linter.unusedVariables false
variable [Sites]

theorem ops_ok {P : Program} {Γ : Tab} (hΓ : TabOK P Γ) (c : CF) (hcf : CfOK P c) (hrd : RndOK P c) : OpsOK P Γ c := by
  intro R an ρ st o a w m K r he hw h
  have h0 := h
  cases hop : o.op with
  | move x => rw [hop] at h; simp only [evalOp] at h; exact goes_move he hw (.inl hop) h
  | assign x => exact goes_assign hΓ he hw hop h
  | pick q x y => rw [hop] at h; simp only [evalOp] at h; exact goes_pick he hw hop h
  | box t x => exact goes_box hΓ he hw hop h
  | alloc t => exact goes_alloc hΓ he hw hop h
  | load t x => rw [hop] at h; simp only [evalOp] at h; exact goes_load (cf := c) hΓ he hw hop h
  | store t x y => exact goes_store hΓ he hw hop h
  | fieldAddr t x f => rw [hop] at h; simp only [evalOp] at h; exact goes_fieldAddr hΓ he hw hop h
  | field t x f => rw [hop] at h; simp only [evalOp] at h; exact goes_field hΓ he hw hop h
  | indexAddr t x y => rw [hop] at h; simp only [evalOp] at h; exact goes_indexAddr (cf := c) hΓ he hw hop h
  | index t x y => rw [hop] at h; simp only [evalOp] at h; exact goes_index (cf := c) hΓ he hw hop h
  | binOp op t x y ty =>
    rw [hop] at h; simp only [evalOp] at h
    cases hq : Γ.eqs t with
    | false =>
      rw [hq] at h
      cases hn : isNilC y with
      | true => rw [hn] at h; exact goes_nil (cf := c) hΓ he hw hop hn h
      | false => rw [hn] at h; exact goes_bin (cf := c) hΓ he hw hop h
    | true => rw [hq] at h; exact goes_eq (cf := c) hΓ he hw hop hq h
  | unOp op t x => rw [hop] at h; simp only [evalOp] at h; exact goes_un (cf := c) he hw hop h
  | convert s d x => rw [hop] at h; simp only [evalOp] at h; exact goes_convert (cf := c) hΓ he hw hop h
  | build t parts => exact goes_build hΓ he hw hop h
  | buildSlice t n parts => exact goes_buildSlice hΓ he hw hop h
  | makeSlice t x y => exact goes_makeSlice hΓ he hw hop h
  | slice t x lo hi mx => exact goes_slice hΓ he hw hop h
  | makeFunc f first caps => exact goes_makeFunc he hw hop h
  | makeMap t q => exact goes_makeMap hΓ he hw hop h
  | lookup t x y ok => exact goes_lookup hΓ he hw hop h
  | mapUpdate t x y z => exact goes_mapUpdate hΓ he hw hop h
  | extract t i => rw [hop] at h; simp only [evalOp] at h; exact goes_extract he hw hop h
  | nilCheck x => rw [hop] at h; simp only [evalOp] at h; exact goes_nilCheck he hw hop h
  | call cl =>
    cases hc : cl.callee with
    | value f => exact goes_call hrd he hw hop hc hcf h
    | invoke x n => rw [hop] at h; simp [evalOp, hc] at h
    | builtin b =>
      rw [hop] at h
      simp only [evalOp, hc] at h
      split at h
      · rename_i v t hv ht; exact goes_len (cf := c) hΓ he hw hop hc hv ht h
      · rename_i v t hv ht; exact goes_cap (cf := c) hΓ he hw hop hc hv ht h
      · rename_i s x t t' hv ht
        split at h
        · rename_i e sz by_ e2 sz2 by2 hty hty'
          exact goes_append (cf := c) hΓ he hw hop hc hv ht hty hty' h
        · rename_i e sz by_ hty hty'
          split at h
          · exact goes_append_str (cf := c) hΓ he hw hop hc hv ht hty hty' h
          · cases h
        · cases h
      · rename_i mm k t t' hv ht; exact goes_delete (cf := c) hΓ he hw hop hc hv ht h
      · rename_i l i k lo t hv ht; exact goes_clear (cf := c) hΓ he hw hop hc hv ht h
      · rename_i k x k' y hv; exact goes_min (cf := c) he hw hop hc hv h
      · rename_i k x k' y hv; exact goes_max (cf := c) he hw hop hc hv h
      · cases h
  | _ => rw [hop] at h; simp [evalOp] at h

/-- What the interpreter says of a program's functions is so. -/
theorem sound {P : Program} {S : Sys} (hs : SysOK P S) : CfOK P (call S) := call_sound hs fun c hc hr => ops_ok hs.tab c hc hr
end Go.X
