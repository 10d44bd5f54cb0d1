/- tapestrylaw07.NormAlike and the two functions that it compares, as the interpreter runs them. -/
import Derived.Test.YtamllgdaepjcfaaXTab0
namespace Go.Proofs.Ytamllgdaepjcfaa
open Go Go.X
set_option maxRecDepth 100000

namespace NA
noncomputable def S : X.Sys := { fn := fnOf [(3, Try.f3), (17, Try.f17), (18, Try.f18)], tab := tab, foreign := fun _ => none }
theorem sys : SysOK Try.prog S where
  tab := tab_is_ok
  mixed := by kernel_rfl
  fn := fnOf_spec (by
    intro p hp
    simp only [List.mem_cons, List.not_mem_nil, or_false] at hp
    rcases hp with rfl | rfl | rfl
    · exact ⟨Try.func3, by kernel_rfl⟩
    · exact ⟨Try.func17, by kernel_rfl⟩
    · exact ⟨Try.func18, by kernel_rfl⟩)
  foreign := fun f g h => by cases h

theorem value_inv {l : List D} (h : WT tab 27 l) : ∃ k n s r hr f hf e key hk, l = [.int .u8 k, .int .i64 n, .str s, .sl 8 r (some hr), .sl 9 f (some hf), .int .u8 e, .str key, .bool hk] := by
  obtain ⟨_, _, rfl, h0, _, _, rfl, h1, _, _, rfl, h2, _, _, rfl, h3, _, _, rfl, h4, _, _, rfl, h5, _, _, rfl, h6, _, _, rfl, h7, rfl⟩ := h.agg_inv rfl rfl
  obtain ⟨k, rfl, _⟩ := h0.int_inv rfl
  obtain ⟨n, rfl, _⟩ := h1.int_inv rfl
  obtain ⟨s, rfl, _⟩ := h2.str_inv rfl
  obtain ⟨r, hr, rfl, _⟩ := h3.slice_inv rfl
  obtain ⟨f, hf, rfl, _⟩ := h4.slice_inv rfl
  obtain ⟨e, rfl, _⟩ := h5.int_inv rfl
  obtain ⟨key, rfl, _⟩ := h6.str_inv rfl
  obtain ⟨hk, rfl⟩ := h7.bool_inv rfl
  exact ⟨k, n, s, r, hr, f, hf, e, key, hk, rfl⟩
/-- The cells of a child: its key, its edge, its name, its value's. -/
theorem child_inv {l : List D} (h : WT tab 29 l) : ∃ c e m k n s r hr f hf g key hk, l = [.str c, .int .u8 e, .str m, .int .u8 k, .int .i64 n, .str s, .sl 8 r (some hr), .sl 9 f (some hf), .int .u8 g, .str key, .bool hk] := by
  obtain ⟨_, _, rfl, h0, _, _, rfl, h1, _, _, rfl, h2, _, _, rfl, h3, rfl⟩ := h.agg_inv rfl rfl
  obtain ⟨c, rfl, _⟩ := h0.str_inv rfl
  obtain ⟨e, rfl, _⟩ := h1.int_inv rfl
  obtain ⟨m, rfl, _⟩ := h2.str_inv rfl
  obtain ⟨k, n, s, r, hr, f, hf, g, key, hk, rfl⟩ := value_inv h3
  exact ⟨c, e, m, k, n, s, r, hr, f, hf, g, key, hk, rfl⟩

theorem call_eq {f : Nat} {fn : Func} (h : fnOf [(3, Try.f3), (17, Try.f17), (18, Try.f18)] f = some fn) (args : List PV) (st : St) : call S f args st = body (real (call S)) tab (tabAnn f) fn args st := by
  rw [call.eq_1]
  show (match S.foreign f with | some g => g args st | none => match S.fn f with | some fn => body (real (call S)) S.tab (S.tab.ann f) fn args st | none => none) = _
  simp only [S, h]
  rfl
/-- What both functions say. -/
noncomputable def al (e e' : Int) (m m' : ByteArray) : Bool := bif e == e' then m.toList == m'.toList else false
abbrev child (c : ByteArray) (e : Int) (m : ByteArray) (k n : Int) (s : ByteArray) (r hr f hf : List (List D)) (g : Int) (key : ByteArray) (hk : Bool) : List D :=
  [.str c, .int .u8 e, .str m, .int .u8 k, .int .i64 n, .str s, .sl 8 r (some hr), .sl 9 f (some hf), .int .u8 g, .str key, .bool hk]
section
variable (c c' m m' s s' key key' : ByteArray) (e e' k k' n n' g g' : Int) (r hr r' hr' f hf f' hf' : List (List D)) (hk hk' : Bool) (st : St)
theorem c17 : call S 17 [.agg (ds (child c e m k n s r hr f hf g key hk)), .agg (ds (child c' e' m' k' n' s' r' hr' f' hf' g' key' hk'))] st = some (.d (.bool (al e e' m m')), st) := by
  rw [call_eq (f := 17) rfl]
  generalize hΩ : real (call S) = Ω
  conv => lhs; cbv
  subst hΩ
  unfold al
  show (match (e == e' : Bool) with | true => some (PV.d (D.bool (m.toList == m'.toList)), st) | false => some (PV.d (D.bool false), st)) = _
  cases (e == e' : Bool) <;> rfl
theorem c18 : call S 18 [.agg (ds (child c e m k n s r hr f hf g key hk)), .agg (ds (child c' e' m' k' n' s' r' hr' f' hf' g' key' hk'))] st = some (.d (.bool (al e e' m m')), st) := by
  rw [call_eq (f := 18) rfl]
  generalize hΩ : real (call S) = Ω
  conv => lhs; cbv
  subst hΩ
  unfold al
  show (match (e == e' : Bool) with | true => some (PV.d (D.bool (m.toList == m'.toList)), st) | false => some (PV.d (D.bool false), st)) = _
  cases (e == e' : Bool) <;> rfl
theorem c3 : call S 3 [.agg (ds (child c e m k n s r hr f hf g key hk)), .agg (ds (child c' e' m' k' n' s' r' hr' f' hf' g' key' hk'))] st = some (.d (.bool true), st) := by
  rw [call_eq (f := 3) rfl]
  have h17 := c17 c c' m m' s s' key key' e e' k k' n n' g g' r hr r' hr' f hf f' hf' hk hk'
  have h18 := c18 c c' m m' s s' key key' e e' k k' n n' g g' r hr r' hr' f hf f' hf' hk hk'
  simp only [ds] at h17 h18
  have hs := same_self (call S)
  change ∀ st, (real (call S)).cf 17 _ st = _ at h17
  change ∀ st, (real (call S)).cf 18 _ st = _ at h18
  have hq : ∀ x y, (real (call S)).ieq x y = (x == y) := fun _ _ => rfl
  generalize real (call S) = Ω at h17 h18 hs hq ⊢
  generalize al e e' m m' = b at h17 h18
  conv => lhs; cbv
  refine bind_step (h17 _) ?_
  conv => lhs; cbv
  refine if_true (hs _) ?_
  conv => lhs; cbv
  refine bind_step (h18 _) ?_
  conv => lhs; cbv
end
theorem law (ls : List (List D)) (h : WTs tab [29, 29] ls) : call S 3 (argsPV tab [29, 29] ls) [] = some (.d (.bool true), []) := by
  obtain ⟨l1, _, rfl, h1, l2, _, rfl, h2, rfl⟩ := h
  obtain ⟨c, e, m, k, n, s, r, hr, f, hf, g, key, hk, rfl⟩ := child_inv h1
  obtain ⟨c', e', m', k', n', s', r', hr', f', hf', g', key', hk', rfl⟩ := child_inv h2
  exact c3 c c' m m' s s' key key' e e' k k' n n' g g' r hr r' hr' f hf f' hf' hk hk' []
end NA
end Go.Proofs.Ytamllgdaepjcfaa
