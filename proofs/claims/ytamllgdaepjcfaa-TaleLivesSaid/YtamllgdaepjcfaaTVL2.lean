/- tale: Of, Count and the examples, on plain data. -/
import Derived.Test.YtamllgdaepjcfaaTVL1
import Derived.Test.YtamllgdaepjcfaaTVD2
namespace Go.Proofs.Ytamllgdaepjcfaa
open Go Go.X
set_option linter.unusedVariables false
set_option linter.unusedSimpArgs false
set_option maxRecDepth 100000
theorem of_ok (fu : Nat) (l : List Note) (x : Option (List Note)) (id : Int) (hl : l.length ≤ 1048576) : P47 fu ⟨l, x⟩ id = some ⟨ofI l id, none⟩ := by
  unfold P47
  dsimp only
  obtain ⟨s, h1, h2, h3⟩ := wl_rest (f := P47_s0 fu l id) l (fun (s : List Note) k => (s, (k : Int))) (fun k s => s = ofI (l.take k) id ∧ s.length ≤ k) (fun s => (s, (l.length : Int))) (fun k hk s hI => by
    obtain ⟨g1, g2⟩ := hI
    have hn : ofI (l.take (k + 1)) id = if l[k].Inst = id then s ++ [l[k]] else s := by rw [take_snoc' l k hk, ofI_snoc, ← g1]
    unfold P47_s0
    dsimp only
    rw [lt_true hk, idx_lt l k hk]
    revert hn
    generalize l[k] = n
    obtain ⟨a, b, c, d, e⟩ := n
    intro hn
    dsimp only at hn
    have hroom : room 56 (ln (s ++ [Note.mk a b c d e])) = true := by
      rw [ln_eq]
      exact room_small (m := l.length) (by simp; omega) (by omega) (by omega) (by omega)
    simp only [Option.bind_some, cond_true]
    rw [w64_succ (by omega)]
    by_cases he : b = id
    · rw [if_pos he] at hn
      have : (b == id) = true := by simp [he]
      exact ⟨_, by simp only [this, cond_true, hroom, Option.bind_some], hn.symm, by simp; omega⟩
    · rw [if_neg he] at hn
      have : (b == id) = false := by simp [he]
      exact ⟨s, by simp only [this, cond_false, Option.bind_some], hn.symm, by omega⟩) (fun s hI => by
    unfold P47_s0
    dsimp only
    rw [lt_false]
    rfl) [] ⟨rfl, by simp⟩
  have h1 : wl (P47_s0 fu l id) (([] : List Note), 0) = some (s, (l.length : Int)) := h1
  rw [h1]
  rw [List.take_length] at h2
  subst h2
  rfl
theorem count_ok (fu : Nat) (l : List Note) (x : Option (List Note)) (kd : Int) (hl : l.length ≤ 1048576) : P48 fu ⟨l, x⟩ kd = some (cntK l kd : Int) := by
  unfold P48
  dsimp only
  obtain ⟨s, h1, h2⟩ := wl_rest (f := P48_s0 fu l kd) l (fun (s : Nat) k => ((s : Int), (k : Int))) (fun k s => s = cntK (l.take k) kd) (fun s => ((s : Int), (l.length : Int))) (fun k hk s hI => by
    have hn : cntK (l.take (k + 1)) kd = if l[k].Kind = kd then s + 1 else s := by rw [take_snoc' l k hk, cntK_snoc, ← hI]
    have hs : s ≤ l.length := by rw [hI]; have := cntK_le (l.take k) kd; simp at this; omega
    unfold P48_s0
    dsimp only
    rw [lt_true hk, idx_lt l k hk]
    revert hn
    generalize l[k] = n
    obtain ⟨a, b, c, d, e⟩ := n
    intro hn
    dsimp only at hn
    simp only [Option.bind_some, cond_true]
    rw [w64_succ (by omega), w64_succ (by omega)]
    by_cases he : a = kd
    · rw [if_pos he] at hn
      have : (a == kd) = true := by simp [he]
      exact ⟨s + 1, by simp only [this, cond_true, Option.bind_some], hn.symm⟩
    · rw [if_neg he] at hn
      have : (a == kd) = false := by simp [he]
      exact ⟨s, by simp only [this, cond_false, Option.bind_some], hn.symm⟩) (fun s hI => by
    unfold P48_s0
    dsimp only
    rw [lt_false]
    rfl) 0 rfl
  have h1 : wl (P48_s0 fu l kd) (0, 0) = some ((s : Int), (l.length : Int)) := h1
  rw [h1]
  rw [List.take_length] at h2
  subst h2
  rfl
theorem alive_ok (fu : Nat) : P46 fu = some true := by
  unfold P46
  simp only [P49, Option.bind_some]
  have e6 : [Note.mk 1 1 ByteArray.empty false ByteArray.empty, Note.mk 2 1 ByteArray.empty false ByteArray.empty, Note.mk 5 1 ByteArray.empty false ByteArray.empty, Note.mk 6 1 ByteArray.empty false ByteArray.empty, Note.mk 7 1 ByteArray.empty false ByteArray.empty, Note.mk 4 1 ByteArray.empty false ByteArray.empty] = [nt 1, nt 2, nt 5, nt 6, nt 7, nt 4] := rfl
  have e1 : Note.mk 1 1 ByteArray.empty false ByteArray.empty = nt 1 := rfl
  rw [e6, e1]
  have c1 : cut ([nt 1, nt 2, nt 5, nt 6, nt 7, nt 4] ++ []) 1 (ln [nt 1, nt 2, nt 5, nt 6, nt 7, nt 4]) = [nt 2, nt 5, nt 6, nt 7, nt 4] := rfl
  have c2 : [nt 1, nt 2, nt 5, nt 6, nt 7, nt 4] ++ [nt 1] = [nt 1, nt 2, nt 5, nt 6, nt 7, nt 4, nt 1] := rfl
  rw [c1, c2]
  rw [check_ok fu _ _ (by decide), check_ok fu _ _ (by decide), check_ok fu _ _ (by decide), count_ok fu _ _ _ (by decide), of_ok fu _ _ _ (by decide)]
  have k6 : chk [nt 1, nt 2, nt 5, nt 6, nt 7, nt 4] = (6, 0) := by simp [chk, bad6, ln]
  have k5 : chk [nt 2, nt 5, nt 6, nt 7, nt 4] = (0, 1) := by simp [chk, bad5]
  have k7 : chk [nt 1, nt 2, nt 5, nt 6, nt 7, nt 4, nt 1] = (6, 1) := by simp [chk, bad7]
  rw [k6, k5, k7]
  have k8 : cntK [nt 1, nt 2, nt 5, nt 6, nt 7, nt 4] 5 = 1 := rfl
  have k9 : ofI [nt 1, nt 2, nt 5, nt 6, nt 7, nt 4] 2 = [] := rfl
  rw [k8, k9]
  rfl
end Go.Proofs.Ytamllgdaepjcfaa
