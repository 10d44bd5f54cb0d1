/- Numbers told as texts: the library's contract of strconv's FormatInt at base 10, as a function of the interpreter. -/
import Derived.Test.YtdmpjlpkmokllaaDoorXEval
import Derived.Lib.LaidTab
import Derived.LaidSub
import Derived.Shelf.Strconv.Itoa4
namespace Go.X
open Go
set_option linter.unusedSectionVars false
set_option linter.unusedVariables false
variable [Sites]
def itoaB (n : Int) : ByteArray := ⟨(Lib.itoa n).toArray⟩
def inI64 (n : Int) : Bool := decide (-9223372036854775808 ≤ n) && decide (n ≤ 9223372036854775807)
def itoaF : List PV → St → Option (PV × St) := fun args st => match args with
  | [.d (.int .i64 n), .d (.int .i64 b)] => bif b == 10 then bif inI64 n then some (.d (.str (itoaB n)), st) else none else none
  | _ => none
/-- A world with blocks more. -/
theorem WRel.grown {m : Mt} {st : St} {w w' : World} (hw : WRel m st w) {os : Array Go.Obj} (hh : w'.heap = w.heap ++ os) (hos : w'.os = w.os) (tape : w'.tape = w.tape) (output : w'.output = w.output) : Ext m w m w' ∧ WRel m st w' := by
  have hold : ∀ b, b < w.heap.size → w'.heap[b]? = w.heap[b]? := fun b hb => by rw [hh, Array.getElem?_append_left hb]
  have hk : Keeps m.cl w m.cl w' := ⟨fun b => Nat.le_refl _, fun b j hj => by
    have : b < w.heap.size := by
      rcases Nat.lt_or_ge b w.heap.size with h | h
      · exact h
      · rw [hw.cl_size h] at hj; omega
    exact World.cell?_of_block (hold b this)⟩
  have hsize : w.heap.size ≤ w'.heap.size := by rw [hh]; simp
  refine ⟨⟨hk, EntsLe.refl _, hos, tape, output, hsize, fun b hb' _ => hold b hb', fun b hb' => .inl hb'⟩, hw.st.keep hk (fun b hb => ⟨hold b (hw.lt b hb), rfl⟩), hw.nodup, fun b => ?_, hw.glob.step (fun b hb' _ => hold b hb') fun b hb' => .inl hb'⟩
  rcases Nat.lt_or_ge b w.heap.size with h' | h'
  · rw [csize_same (hold b h')]; exact hw.le b
  · rw [hw.cl_size h']; exact Nat.zero_le _
theorem glob_tab {P : Program} {name : String} {g : Nat} {k : IntKind} {zs : List Int} (hg : P.globalNamed name = some g) (hs : (g, (zs.map fun z => Value.int k z).toArray) ∈ Sites.glob) {m : Mt} {st : St} {w : World} (hw : WRel m st w) : Lib.TabIs P w name k zs := by
  obtain ⟨⟨t, fr, h1⟩, _⟩ := hw.glob _ hs
  show World.var? P w name = _
  unfold World.var?
  rw [hg]
  show (match w.heap[g]? with | some (.cells cs _ _) => some cs | _ => none) = _
  rw [h1]
theorem glob_laid {P : Program} {name : String} {g : Nat} {k : IntKind} {zs : List Int} (hg : P.globalNamed name = some g) {w : World} (h : Lib.TabIs P w name k zs) (hs : ∀ q ∈ Sites.glob, q = (g, (zs.map fun z => Value.int k z).toArray)) : GlobOK [] w := by
  intro q hq
  obtain rfl := hs q hq
  refine ⟨?_, by simp [blks, livB]⟩
  have h : World.var? P w name = _ := h
  unfold World.var? at h
  rw [hg] at h
  change (match w.heap[g]? with | some (.cells cs _ _) => some cs | _ => none) = _ at h
  split at h
  · rename_i cs t fr hh
    cases h
    exact ⟨t, fr, hh⟩
  · cases h
theorem itoa_foreign {P : Program} {f g : Nat} (hg : P.globalNamed "internal/strconv.uint64pow10" = some g) (hs : (g, (Lib.pow10Tab.map fun z => Value.int .u64 z).toArray) ∈ Sites.glob) (hn : fnNamed P f)
    (hc : ∀ (n : Int), -9223372036854775808 ≤ n → n ≤ 9223372036854775807 → ∀ w : World, Lib.TabIs P w "internal/strconv.uint64pow10" .u64 Lib.pow10Tab →
      Calls P f #[.int .i64 n, .int .i64 10] w fun e w' => e = .returned (.string ⟨(Lib.itoa n).toArray⟩) ∧ ∃ k os, w' = Sort.grow (w.drewN k) os) :
    fnNamed P f ∧ ∀ (args : List PV) (st : St) (r' : PV) (st' : St), itoaF args st = some (r', st') → ∀ (m : Mt) (w : World) (vs : List Value), VList m.blk m.cl w args vs → WRel m st w →
      Calls P f vs.toArray w fun e w' => ∃ v m', e = .returned v ∧ VRel m'.blk m'.cl w' r' v ∧ Ext m w m' w' ∧ WRel m' st' w' := by
  refine ⟨hn, fun args st r' st' ha m w vs hv hw => ?_⟩
  unfold itoaF at ha
  split at ha
  · rename_i n b
    cases hb : b == 10 with
    | false => rw [hb] at ha; cases ha
    | true =>
      cases hi : inI64 n with
      | false => rw [hb, hi] at ha; cases ha
      | true =>
        rw [hb, hi] at ha
        cases ha
        have hb' : b = 10 := by simpa using hb
        subst hb'
        simp only [inI64, Bool.and_eq_true, decide_eq_true_eq] at hi
        simp only [VList, VRel, DRel] at hv
        obtain ⟨v1, s1, rfl, rfl, v2, s2, rfl, rfl, rfl⟩ := hv
        refine (hc n hi.1 hi.2 w (glob_tab hg hs hw)).mono ?_
        rintro e w' ⟨rfl, k, os, rfl⟩
        obtain ⟨hx, hw'⟩ := hw.grown (w' := Sort.grow (w.drewN k) os) (os := os) rfl rfl rfl rfl
        exact ⟨_, m, rfl, by simp only [VRel, DRel]; rfl, hx, hw'⟩
  · cases ha
theorem itoa_call {S : Sys} {f : Nat} (h : S.foreign f = some itoaF) {n b : Int} {r : ByteArray} (hr : (bif b == 10 then bif inI64 n then some (itoaB n) else none else none) = some r) (st : St) : call S f [.d (.int .i64 n), .d (.int .i64 b)] st = some (.d (.str r), st) := by
  rw [call.eq_1]
  unfold step
  rw [h]
  show itoaF _ st = _
  unfold itoaF
  dsimp only
  cases hb : b == 10 with
  | false => rw [hb] at hr; cases hr
  | true =>
    cases hi : inI64 n with
    | false => rw [hb, hi] at hr; cases hr
    | true => rw [hb, hi] at hr; cases hr; rfl
end Go.X
