/- T -/
import Derived.Test.YtedfkehkcaaplaaXTrod
import Derived.WideShapes
import Derived.Carry
import Derived.ChangeCalls
namespace Go.X
open Go Go.RowKit Go.ChangeShapes Go.WideShapes
set_option linter.unusedVariables false
variable [bY]
def Gh (Γ : Tab) (t : Nat) (l : List D) : PV := match Γ.ty t with
 | .agg _ _ => .agg (ds l)
 | _ => match l with | [x] => .d x | _ => .unk
def Dh (Γ : Tab) : List Nat → List (List D) → List PV
 | t :: ts, l :: ls => Gh Γ t l :: Dh Γ ts ls
 | _, _ => []
def WTs (Γ : Tab) : List Nat → List (List D) → Prop
 | [], ls => ls = []
 | t :: ts, ls => ∃ l r, ls = l :: r ∧ WT Γ t l ∧ WTs Γ ts r
section
variable {H : Type} {enc : TypeId × Value → H} {P : Program} {Γ : Tab} {W : World}
theorem Rw (hΓ : cZ P Γ) {L : List Nat} (hL : yJ Γ L = true) {t : Nat} {v : Value} {d : DataW H} {ps : List MemPlace} {base : Nat} (ht : t ∈ L) (hv : Value.okWide P W .any base t v) (h : DataW.Trod enc P W 0 (fun _ => true) true t v d ps) (hz : ∀ x ∈ d.weights P t, x ≤ reachBytes) :
  ∃ l, WT Γ t l ∧ aj [] (csize W) W (Gh Γ t l) v ∧ ∀ B : DataW H → Nat, qp B → iL l ≤ B d := by
 obtain ⟨fuel, h⟩ := h
 obtain ⟨l, h1, h2, hbk⟩ := wW hΓ hL fuel t _ d ps ht h hz
 refine ⟨l, h2, ?_, hbk⟩
 have jw := hΓ.ty t
 unfold kD at jw
 have one : ∀ {x : D}, l = [x] → v.cells = #[v] → (∀ n fs, Γ.ty t ≠ .agg n fs) → aj [] (csize W) W (Gh Γ t l) v := by
  rintro x rfl hc hn
  have : Gh Γ t [x] = .d x := by
   unfold Gh
   split
   ·rename_i n fs hty; exact absurd hty (hn n fs)
   ·rfl
  rw [this]
  rw [hc] at h1
  simp only [bR] at h1
  obtain ⟨u, s, h3, h4, _⟩ := h1
  simp only [List.cons.injEq] at h3
  obtain ⟨rfl, _⟩ := h3
  simpa only [aj] using h4
 cases h2 with
 | int hty hn =>
  simp only [hty] at jw
  obtain ⟨n, rfl⟩ := okWide_int jw hv
  exact one rfl rfl (by simp [hty])
 | bool hty =>
  simp only [hty] at jw
  obtain ⟨n, rfl⟩ := okWide_bool jw hv
  exact one rfl rfl (by simp [hty])
 | str hty hs =>
  simp only [hty] at jw
  obtain ⟨n, rfl⟩ := okWide_string jw hv
  exact one rfl rfl (by simp [hty])
 | slice hty h3 h4 h5 h6 =>
  simp only [hty] at jw
  obtain ⟨a, len, cap, rfl⟩ := okWide_slice jw.1 hv
  exact one rfl rfl (by simp [hty])
 | agg hty hn hf =>
  simp only [hty] at jw
  obtain ⟨fields, hu, _⟩ := jw
  obtain ⟨cs, rfl, _⟩ := okWide_struct hu hv
  simp only [Gh, hty, aj]
  exact ⟨cs.toList, by simp, aK.cells h1⟩
theorem Di (hΓ : cZ P Γ) {L : List Nat} (hL : yJ Γ L = true) {base : Nat} : ∀ {ts : List Nat} {vs : List Value} {dd : List (DataW H)} {ps : List MemPlace}, (∀ t ∈ ts, t ∈ L) →
  (∀ (j : Nat) t v, ts[j]? = some t → vs[j]? = some v → Value.okWide P W .any base t v) → DataW.TrodAll enc P W 0 (fun _ => true) true ts vs dd ps → (∀ x ∈ DataW.weightsEach P ts dd, x ≤ reachBytes) →
  ∃ ls, WTs Γ ts ls ∧ aK [] (csize W) W (Dh Γ ts ls) vs ∧ ∀ B : DataW H → Nat, qp B → fP ls ≤ (dd.map B).sum
 | [], vs, dd, ps, _, _, h, _ => by
  obtain ⟨rfl, rfl, rfl⟩ := trodAll_nil h
  exact ⟨[], rfl, rfl, fun B _ => by simp [fP]⟩
 | t :: ts, vs, dd, ps, hts, hv, h, hz => by
  cases vs with
  | nil => cases dd <;> exact h.elim
  | cons v vs =>
   cases dd with
   | nil => exact h.elim
   | cons d dd =>
    obtain ⟨p, q, h1, h2, rfl⟩ := h
    obtain ⟨l, h3, h4, hb1⟩ := Rw hΓ hL (hts t (by simp)) (hv 0 t v rfl rfl) h1 (fun x hx => hz x (by simp only [DataW.weightsEach, List.mem_append]; exact .inl hx))
    obtain ⟨ls, h5, h6, hb2⟩ := Di hΓ hL (fun t ht => hts t (by simp [ht])) (fun j t v h1 h2 => hv (j + 1) t v (by simpa using h1) (by simpa using h2)) h2 (fun x hx => hz x (by simp only [DataW.weightsEach, List.mem_append]; exact .inr hx))
    exact ⟨l :: ls, ⟨l, ls, rfl, h3, h5⟩, ⟨v, vs, rfl, h4, h6⟩, fun B hB => by rw [fP, List.map_cons, List.sum_cons]; have := hb1 B hB; have := hb2 B hB; omega⟩
theorem wC (hl : laidOutB P = true) {W W' : World} {sp : Nat → Bool} : ∀ {ts : List TypeId} {vs : List Value} {dd : List (DataW H)} {ps : List MemPlace}, (∀ t ∈ ts, P.readableRec t = true ∧ t < P.types.size) →
  DataW.TrodAll enc P W 0 (fun _ => true) true ts vs dd ps → (∀ x ∈ ps, W.sameAt W' x) → (∀ x ∈ ps, sp x.block = true) → DataW.TrodAll enc P W' 0 sp true ts vs dd ps
 | [], vs, dd, ps, _, h, _, _ => by
  obtain ⟨rfl, rfl, rfl⟩ := trodAll_nil h
  rfl
 | t :: ts, vs, dd, ps, hts, h, hs, hsp => by
  cases vs with
  | nil => cases dd <;> exact h.elim
  | cons v vs =>
   cases dd with
   | nil => exact h.elim
   | cons d dd =>
    obtain ⟨p, q, h1, h2, rfl⟩ := h
    obtain ⟨h3, h4⟩ := hts t (by simp)
    exact ⟨p, q, WideElems.Trod_stays hl h3 h4 h1 (fun x hx => hs x (by simp [hx])) (fun x hx => hsp x (by simp [hx])),
     wC hl (fun t ht => hts t (by simp [ht])) h2 (fun x hx => hs x (by simp [hx])) (fun x hx => hsp x (by simp [hx])), rfl⟩
theorem Rx {f : Func} {s : ChangeSpec} {apart fresh handsOn again : Bool} {W' : World} {args : Array Value} {v : Value} {ds gs : List (DataW H)} {before pa : List MemPlace}
  (hW : DataW.Whole enc P f.params.toList s.vars apart W args.toList ds gs before)
  (hres : ∀ (b : Nat) (sp : Nat → Bool) (hd : Bool), DataW.TrodAll enc P W' b sp hd f.resultTypes.toList (v.resultList f.resultTypes.size) (s.fn H (ds ++ gs)).results [])
  (hargs : ∀ sp : Nat → Bool, (∀ p ∈ before, sp p.block = true) → DataW.TrodAll enc P W' 0 sp true f.params.toList args.toList (s.fn H (ds ++ gs)).args pa)
  (hvars : ∀ sp : Nat → Bool, DataW.TrodVars enc P W' sp s.vars (s.fn H (ds ++ gs)).vars [])
  (hps : before = pa) (hk : W.keptBut W' (· ∈ before)) (hfz : ∀ b off, MemPlace.cell b off ∈ before → W'.frozen? ⟨b, off, none⟩ = W.frozen? ⟨b, off, none⟩)
  (hok : ∀ (j : Nat) (t : TypeId) (r : Value), f.resultTypes[j]? = some t → (v.resultList f.resultTypes.size)[j]? = some r → Value.okWide P W' .any 0 t r) :
  s.post enc P f apart fresh handsOn again W args v W' := by
 subst hps
 have hlt : ∀ p ∈ before, (fun b => decide (b < W.heap.size)) p.block = true := fun p hp => by simpa using hW.lt p hp
 have hall := trodAll_append (hargs (fun _ => true) (fun _ _ => rfl)) (hres 0 (fun _ => true) true)
 have hW2 := hW
 obtain ⟨p0, q0, _, _, _, hz, hn⟩ := hW2
 refine ⟨ds, gs, before, [], before, [], hW, hres _ _ _, hargs _ hlt, hvars _, World.keptBut_mono (fun p hp => ⟨hp, .inr (.inl hp)⟩) hk, fun _ => ⟨hok, _, _, before, ⟨before, [], by simpa using hall, hvars _, by simp, fun b off hp => (hfz b off hp).trans (hz b off hp), hn⟩, fun p hp _ => hp⟩⟩
theorem KZ {S : Sys} (XV : pW P S) {L : List Nat} (hL : yJ S.tab L = true) (hl : laidOutB P = true) {f : Nat} {fn : Func} {ts : List Nat} (hts : fn.params.toList = ts) (abP : ∀ t ∈ ts, t ∈ L)
  (hread : ∀ t ∈ ts, P.readableRec t = true ∧ t < P.types.size) {rt : Nat} (hrt : fn.resultTypes = #[rt]) (hrb : P.underlying rt = some .bool) {s : ChangeSpec} (hvars : s.vars = [])
  {apart fresh handsOn again : Bool} {base : Nat} {args : Array Value} {dd gs : List (DataW H)} {before : List MemPlace}
  (hval : ∀ (j : Nat) t v, fn.params[j]? = some t → args[j]? = some v → Value.okWide P W .any base t v)
  (hW : DataW.Whole enc P fn.params.toList s.vars apart W args.toList dd gs before)
  (hz : (DataW.weightsEach P (fn.params.toList ++ s.plain.varTypes P) (dd ++ gs)).all (· ≤ reachBytes) = true)
  (hspec : ∀ d : List (DataW H), d.length = ts.length → (s.fn H d).results = [.lit (.bool true)] ∧ (s.fn H d).args = d ∧ (s.fn H d).vars = [])
  (TQ : oq [] W) (hsb : iF f = false) {Q : List (List D) → Prop} (hQ : ∀ ls, (∀ B : DataW H → Nat, qp B → fP ls ≤ (dd.map B).sum) → Q ls) (hcall : ∀ ls, WTs S.tab ts ls → Q ls → call S f (Dh S.tab ts ls) [] = some (.d (.bool true), [])) :
  Calls P f args W fun e W' => ∃ v, e = .returned v ∧ s.post enc P fn apart fresh handsOn again W args v W' := by
 have hW' := hW
 obtain ⟨p, q, hA, hV, rfl, hfz, hnd⟩ := hW
 rw [hvars] at hV
 have hgs : gs = [] ∧ q = [] := by
  cases gs with
  | nil => exact ⟨rfl, hV⟩
  | cons g gs => exact hV.elim
 obtain ⟨rfl, rfl⟩ := hgs
 rw [hts] at hA
 have hz' : ∀ x ∈ DataW.weightsEach P ts dd, x ≤ reachBytes := by
  have hl := (Go.trodAll_length hA).2
  rw [List.append_nil, hts] at hz
  have hap : ∀ (ts us : List TypeId) (l : List (DataW H)), l.length = ts.length → DataW.weightsEach P (ts ++ us) l = DataW.weightsEach P ts l := by
   intro ts
   induction ts with
   | nil => intro us l h; have : l = [] := List.length_eq_zero_iff.1 h; subst this; cases us <;> rfl
   | cons t ts ih => intro us l h; cases l with
    | nil => simp at h
    | cons d l => simp only [List.cons_append, DataW.weightsEach]; rw [ih us l (by simpa using h)]
  rw [hap _ _ _ hl] at hz
  simpa using hz
 obtain ⟨ls, h1, h2, hbk⟩ := Di XV.tab hL (base := base) abP (fun j t v hj hv => hval j t v (by rw [← hts] at hj; simpa using hj) (by simpa using hv)) hA hz'
 have hw : aO ⟨[], csize W⟩ [] W := ⟨rfl, by simp [blks, eX], fun b => Nat.le_refl _, TQ⟩
 have hc := (sound XV f _ [] _ [] hsb (hcall ls h1 (hQ ls hbk))).2 ⟨[], csize W⟩ W args.toList h2 hw
 rw [Array.toArray_toList] at hc
 refine hc.mono fun e W' he => ?_
 obtain ⟨v, m', rfl, hv, hx, _⟩ := he
 simp only [aj, aZ] at hv
 subst hv
 have hbelow : Below W.heap.size W W' := ⟨hx.os, hx.tape, hx.output, hx.size, fun k hk => hx.kept k hk (by simp [blks, eX])⟩
 have hdl : dd.length = ts.length := (Go.trodAll_length hA).2
 obtain ⟨s1, s2, s3⟩ := hspec dd hdl
 have hfz' : ∀ b off, MemPlace.cell b off ∈ p ++ [] → W'.frozen? ⟨b, off, none⟩ = W.frozen? ⟨b, off, none⟩ := fun b off hp => by
  have hb : b < W.heap.size := hW'.lt _ hp
  have hk := hx.kept b hb (by simp [blks, eX])
  unfold World.frozen?
  show (match W'.heap[b]? with | some (.cells _ _ (lo, hi)) => decide (lo ≤ off) && decide (off < hi) | _ => false) = (match W.heap[b]? with | some (.cells _ _ (lo, hi)) => decide (lo ≤ off) && decide (off < hi) | _ => false)
  rw [hk]
 refine ⟨_, rfl, Rx (pa := p) hW' (fun b sp hd => ?_) (fun sp hsp => ?_) (fun sp => ?_) (by simp) (hbelow.frame _) hfz' (ok_one hrt rfl (okWide_bool_mk hrb true))⟩
 ·rw [List.append_nil, s1, hrt]
  exact trodAll_mk1 (shut_bool hrb true)
 ·rw [List.append_nil, s2, hts]
  exact wC hl hread hA (fun x hx => hbelow.same (hW'.lt x (by simp [hx]))) (fun x hx => hsp x (by simp [hx]))
 ·rw [List.append_nil, s3, hvars]
  exact rfl
theorem TR {S : Sys} (XV : pW P S) {L : List Nat} (hL : yJ S.tab L = true) (hl : laidOutB P = true) {f : Nat} {fn : Func} {ts : List Nat} (hts : fn.params.toList = ts) (abP : ∀ t ∈ ts, t ∈ L)
  (hread : ∀ t ∈ ts, P.readableRec t = true ∧ t < P.types.size) {rt : Nat} (hrt : fn.resultTypes = #[rt]) (hrb : P.underlying rt = some .bool) {s : ChangeSpec} (hvars : s.vars = [])
  {apart fresh handsOn again : Bool} {base : Nat} {args : Array Value} {dd gs : List (DataW H)} {before : List MemPlace}
  (hval : ∀ (j : Nat) t v, fn.params[j]? = some t → args[j]? = some v → Value.okWide P W .any base t v)
  (hW : DataW.Whole enc P fn.params.toList s.vars apart W args.toList dd gs before)
  (hz : (DataW.weightsEach P (fn.params.toList ++ s.plain.varTypes P) (dd ++ gs)).all (· ≤ reachBytes) = true)
  (hspec : ∀ d : List (DataW H), d.length = ts.length → (s.fn H d).results = [.lit (.bool true)] ∧ (s.fn H d).args = d ∧ (s.fn H d).vars = [])
  (TQ : oq [] W) (hsb : iF f = false) {B : DataW H → Nat} (hB : qp B) {N : Nat} (hN : (dd.map B).sum ≤ N) (hcall : ∀ ls, WTs S.tab ts ls → fP ls ≤ N → call S f (Dh S.tab ts ls) [] = some (.d (.bool true), [])) :
  Calls P f args W fun e W' => ∃ v, e = .returned v ∧ s.post enc P fn apart fresh handsOn again W args v W' :=
 KZ XV hL hl hts abP hread hrt hrb hvars hval hW hz hspec TQ hsb (Q := fun ls => fP ls ≤ N) (fun ls h => Nat.le_trans (h B hB) hN) hcall
end
section
variable {H : Type} {enc : TypeId × Value → H}
end
end Go.X
