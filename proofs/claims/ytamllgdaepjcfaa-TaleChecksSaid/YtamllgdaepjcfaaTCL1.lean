/- tale: counts and examples, on plain data (no function of the program). -/
import Derived.Test.YtamllgdaepjcfaaTCL0
namespace Go.Proofs.Ytamllgdaepjcfaa
open Go Go.X
set_option linter.unusedVariables false
set_option linter.unusedSimpArgs false
set_option maxRecDepth 100000
def cntK (l : List Note) (k : Int) : Nat := (l.filter (fun y => y.Kind == k)).length
theorem cntK_snoc (l : List Note) (x : Note) (k : Int) : cntK (l ++ [x]) k = if x.Kind = k then cntK l k + 1 else cntK l k := by
  by_cases h : x.Kind = k <;> simp [cntK, h]
theorem cntK_le (l : List Note) (k : Int) : cntK l k ≤ l.length := List.length_filter_le _ _
def nt (k : Int) : Note := ⟨k, 1, ByteArray.empty, false, ByteArray.empty⟩
theorem mget_one (r : Talerun) (v : Bool) : mget (mset ([] : List (Talerun × Bool)) r v) r = some v := by rw [mget_mset', if_pos rfl]
theorem mrem_one (r : Talerun) (v : Bool) : mrem (mset ([] : List (Talerun × Bool)) r v) r = [] := by simp [mset, mrem]
theorem bad6 : bad [] [nt 1, nt 2, nt 5, nt 6, nt 7, nt 4] = none := by
  simp [bad, can, ofI, stS, G, nt, dflt, mget_one, mrem_one, mget]
theorem bad5 : bad [] [nt 2, nt 5, nt 6, nt 7, nt 4] = some 0 := by
  simp [bad, can, ofI, stS, G, nt, dflt, mget_one, mrem_one, mget]
theorem bad7 : bad [] [nt 1, nt 2, nt 5, nt 6, nt 7, nt 4, nt 1] = some 6 := by
  simp [bad, can, ofI, stS, G, nt, dflt, mget_one, mrem_one, mget]
theorem chk_fst (l : List Note) : 0 ≤ (chk l).1 ∧ (chk l).1 ≤ ln l ∧ ((chk l).2 = 0 ∨ (chk l).2 = 1) ∧ ((chk l).2 = 0 ↔ (chk l).1 = ln l) := by
  unfold chk
  cases h : bad [] l with
  | none => simp [ln]
  | some k =>
    have := bad_lt l [] k h
    simp [ln]
    omega
end Go.Proofs.Ytamllgdaepjcfaa
