/- A law: from the interpreter's word to the row's. -/
import Derived.Test.YtdmpjlpkmokllaaDoorXTrod
import Derived.WideShapes
import Derived.Carry
import Derived.ChangeCalls
namespace Go.X
open Go Go.RowKit Go.ChangeShapes Go.WideShapes
set_option linter.unusedSectionVars false
set_option linter.unusedSimpArgs false
set_option linter.unusedVariables false
variable [Sites]

/-- An argument, as the interpreter holds it. -/
def argPV (Γ : Tab) (t : Nat) (l : List D) : PV := match Γ.ty t with
  | .agg _ _ => .agg (ds l)
  | _ => match l with | [x] => .d x | _ => .unk
def argsPV (Γ : Tab) : List Nat → List (List D) → List PV
  | t :: ts, l :: ls => argPV Γ t l :: argsPV Γ ts ls
  | _, _ => []
def WTs (Γ : Tab) : List Nat → List (List D) → Prop
  | [], ls => ls = []
  | t :: ts, ls => ∃ l r, ls = l :: r ∧ WT Γ t l ∧ WTs Γ ts r

section
variable {H : Type} {enc : TypeId × Value → H} {P : Program} {Γ : Tab} {W : World}

theorem arg_typed (hΓ : TabOK P Γ) {L : List Nat} (hL : closedB Γ L = true) {t : Nat} {v : Value} {d : DataW H} {ps : List MemPlace} {base : Nat} (ht : t ∈ L) (hv : Value.okWide P W .any base t v) (h : DataW.Trod enc P W 0 (fun _ => true) true t v d ps) (hz : ∀ x ∈ d.weights P t, x ≤ reachBytes) :
    ∃ l, WT Γ t l ∧ VRel [] (csize W) W (argPV Γ t l) v ∧ ∀ B : DataW H → Nat, IsBulk B → bulkL l ≤ B d := by
  obtain ⟨fuel, h⟩ := h
  obtain ⟨l, h1, h2, hbk⟩ := trod_typed hΓ hL fuel t _ d ps ht h hz
  refine ⟨l, h2, ?_, hbk⟩
  have htt := hΓ.ty t
  unfold TyOK at htt
  have one : ∀ {x : D}, l = [x] → v.cells = #[v] → (∀ n fs, Γ.ty t ≠ .agg n fs) → VRel [] (csize W) W (argPV Γ t l) v := by
    rintro x rfl hc hn
    have : argPV Γ t [x] = .d x := by
      unfold argPV
      split
      · rename_i n fs hty; exact absurd hty (hn n fs)
      · rfl
    rw [this]
    rw [hc] at h1
    simp only [DList] at h1
    obtain ⟨u, s, h3, h4, _⟩ := h1
    simp only [List.cons.injEq] at h3
    obtain ⟨rfl, _⟩ := h3
    simpa only [VRel] using h4
  cases h2 with
  | int hty hn =>
    simp only [hty] at htt
    obtain ⟨n, rfl⟩ := okWide_int htt hv
    exact one rfl rfl (by simp [hty])
  | bool hty =>
    simp only [hty] at htt
    obtain ⟨n, rfl⟩ := okWide_bool htt hv
    exact one rfl rfl (by simp [hty])
  | str hty hs =>
    simp only [hty] at htt
    obtain ⟨n, rfl⟩ := okWide_string htt hv
    exact one rfl rfl (by simp [hty])
  | slice hty h3 h4 h5 h6 =>
    simp only [hty] at htt
    obtain ⟨a, len, cap, rfl⟩ := okWide_slice htt.1 hv
    exact one rfl rfl (by simp [hty])
  | agg hty hn hf =>
    simp only [hty] at htt
    obtain ⟨fields, hu, _⟩ := htt
    obtain ⟨cs, rfl, _⟩ := okWide_struct hu hv
    simp only [argPV, hty, VRel]
    exact ⟨cs.toList, by simp, VList.cells h1⟩

theorem args_typed (hΓ : TabOK P Γ) {L : List Nat} (hL : closedB Γ L = true) {base : Nat} : ∀ {ts : List Nat} {vs : List Value} {dd : List (DataW H)} {ps : List MemPlace}, (∀ t ∈ ts, t ∈ L) →
    (∀ (j : Nat) t v, ts[j]? = some t → vs[j]? = some v → Value.okWide P W .any base t v) → DataW.TrodAll enc P W 0 (fun _ => true) true ts vs dd ps → (∀ x ∈ DataW.weightsEach P ts dd, x ≤ reachBytes) →
    ∃ ls, WTs Γ ts ls ∧ VList [] (csize W) W (argsPV Γ ts ls) vs ∧ ∀ B : DataW H → Nat, IsBulk B → bulkRs ls ≤ (dd.map B).sum
  | [], vs, dd, ps, _, _, h, _ => by
    obtain ⟨rfl, rfl, rfl⟩ := trodAll_nil h
    exact ⟨[], rfl, rfl, fun B _ => by simp [bulkRs]⟩
  | t :: ts, vs, dd, ps, hts, hv, h, hz => by
    cases vs with
    | nil => cases dd <;> exact h.elim
    | cons v vs =>
      cases dd with
      | nil => exact h.elim
      | cons d dd =>
        obtain ⟨p, q, h1, h2, rfl⟩ := h
        obtain ⟨l, h3, h4, hb1⟩ := arg_typed hΓ hL (hts t (by simp)) (hv 0 t v rfl rfl) h1 (fun x hx => hz x (by simp only [DataW.weightsEach, List.mem_append]; exact .inl hx))
        obtain ⟨ls, h5, h6, hb2⟩ := args_typed hΓ hL (fun t ht => hts t (by simp [ht])) (fun j t v h1 h2 => hv (j + 1) t v (by simpa using h1) (by simpa using h2)) h2 (fun x hx => hz x (by simp only [DataW.weightsEach, List.mem_append]; exact .inr hx))
        exact ⟨l :: ls, ⟨l, ls, rfl, h3, h5⟩, ⟨v, vs, rfl, h4, h6⟩, fun B hB => by rw [bulkRs, List.map_cons, List.sum_cons]; have := hb1 B hB; have := hb2 B hB; omega⟩

theorem trodAll_stays (hl : laidOutB P = true) {W W' : World} {sp : Nat → Bool} : ∀ {ts : List TypeId} {vs : List Value} {dd : List (DataW H)} {ps : List MemPlace}, (∀ t ∈ ts, P.readableRec t = true ∧ t < P.types.size) →
    DataW.TrodAll enc P W 0 (fun _ => true) true ts vs dd ps → (∀ x ∈ ps, W.sameAt W' x) → (∀ x ∈ ps, sp x.block = true) → DataW.TrodAll enc P W' 0 sp true ts vs dd ps
  | [], vs, dd, ps, _, h, _, _ => by
    obtain ⟨rfl, rfl, rfl⟩ := trodAll_nil h
    rfl
  | t :: ts, vs, dd, ps, hts, h, hs, hsp => by
    cases vs with
    | nil => cases dd <;> exact h.elim
    | cons v vs =>
      cases dd with
      | nil => exact h.elim
      | cons d dd =>
        obtain ⟨p, q, h1, h2, rfl⟩ := h
        obtain ⟨h3, h4⟩ := hts t (by simp)
        exact ⟨p, q, WideElems.Trod_stays hl h3 h4 h1 (fun x hx => hs x (by simp [hx])) (fun x hx => hsp x (by simp [hx])),
          trodAll_stays hl (fun t ht => hts t (by simp [ht])) h2 (fun x hx => hs x (by simp [hx])) (fun x hx => hsp x (by simp [hx])), rfl⟩

/-- What is owed behind a call that turned nothing of what was read. -/
theorem post_kept {f : Func} {s : ChangeSpec} {apart fresh handsOn again : Bool} {W' : World} {args : Array Value} {v : Value} {ds gs : List (DataW H)} {before pa : List MemPlace}
    (hW : DataW.Whole enc P f.params.toList s.vars apart W args.toList ds gs before)
    (hres : ∀ (b : Nat) (sp : Nat → Bool) (hd : Bool), DataW.TrodAll enc P W' b sp hd f.resultTypes.toList (v.resultList f.resultTypes.size) (s.fn H (ds ++ gs)).results [])
    (hargs : ∀ sp : Nat → Bool, (∀ p ∈ before, sp p.block = true) → DataW.TrodAll enc P W' 0 sp true f.params.toList args.toList (s.fn H (ds ++ gs)).args pa)
    (hvars : ∀ sp : Nat → Bool, DataW.TrodVars enc P W' sp s.vars (s.fn H (ds ++ gs)).vars [])
    (hps : before = pa) (hk : W.keptBut W' (· ∈ before)) (hfz : ∀ b off, MemPlace.cell b off ∈ before → W'.frozen? ⟨b, off, none⟩ = W.frozen? ⟨b, off, none⟩)
    (hok : ∀ (j : Nat) (t : TypeId) (r : Value), f.resultTypes[j]? = some t → (v.resultList f.resultTypes.size)[j]? = some r → Value.okWide P W' .any 0 t r) :
    s.post enc P f apart fresh handsOn again W args v W' := by
  subst hps
  have hlt : ∀ p ∈ before, (fun b => decide (b < W.heap.size)) p.block = true := fun p hp => by simpa using hW.lt p hp
  have hall := trodAll_append (hargs (fun _ => true) (fun _ _ => rfl)) (hres 0 (fun _ => true) true)
  have hW2 := hW
  obtain ⟨p0, q0, _, _, _, hz, hn⟩ := hW2
  refine ⟨ds, gs, before, [], before, [], hW, hres _ _ _, hargs _ hlt, hvars _, World.keptBut_mono (fun p hp => ⟨hp, .inr (.inl hp)⟩) hk, fun _ => ⟨hok, _, _, before, ⟨before, [], by simpa using hall, hvars _, by simp, fun b off hp => (hfz b off hp).trans (hz b off hp), hn⟩, fun p hp _ => hp⟩⟩
/-- A law that answers true, and leaves its input as it was. -/
theorem law_post_at {S : Sys} (hsys : SysOK P S) {L : List Nat} (hL : closedB S.tab L = true) (hl : laidOutB P = true) {f : Nat} {fn : Func} {ts : List Nat} (hts : fn.params.toList = ts) (htsL : ∀ t ∈ ts, t ∈ L)
    (hread : ∀ t ∈ ts, P.readableRec t = true ∧ t < P.types.size) {rt : Nat} (hrt : fn.resultTypes = #[rt]) (hrb : P.underlying rt = some .bool) {s : ChangeSpec} (hvars : s.vars = [])
    {apart fresh handsOn again : Bool} {base : Nat} {args : Array Value} {dd gs : List (DataW H)} {before : List MemPlace}
    (hval : ∀ (j : Nat) t v, fn.params[j]? = some t → args[j]? = some v → Value.okWide P W .any base t v)
    (hW : DataW.Whole enc P fn.params.toList s.vars apart W args.toList dd gs before)
    (hz : (DataW.weightsEach P (fn.params.toList ++ s.plain.varTypes P) (dd ++ gs)).all (· ≤ reachBytes) = true)
    (hspec : ∀ d : List (DataW H), d.length = ts.length → (s.fn H d).results = [.lit (.bool true)] ∧ (s.fn H d).args = d ∧ (s.fn H d).vars = [])
    (hglob : GlobOK [] W) (hsb : siteB f = false) {Q : List (List D) → Prop} (hQ : ∀ ls, (∀ B : DataW H → Nat, IsBulk B → bulkRs ls ≤ (dd.map B).sum) → Q ls) (hcall : ∀ ls, WTs S.tab ts ls → Q ls → call S f (argsPV S.tab ts ls) [] = some (.d (.bool true), [])) :
    Calls P f args W fun e W' => ∃ v, e = .returned v ∧ s.post enc P fn apart fresh handsOn again W args v W' := by
  have hW' := hW
  obtain ⟨p, q, hA, hV, rfl, hfz, hnd⟩ := hW
  rw [hvars] at hV
  have hgs : gs = [] ∧ q = [] := by
    cases gs with
    | nil => exact ⟨rfl, hV⟩
    | cons g gs => exact hV.elim
  obtain ⟨rfl, rfl⟩ := hgs
  rw [hts] at hA
  have hz' : ∀ x ∈ DataW.weightsEach P ts dd, x ≤ reachBytes := by
    have hl := (Go.trodAll_length hA).2
    rw [List.append_nil, hts] at hz
    have hap : ∀ (ts us : List TypeId) (l : List (DataW H)), l.length = ts.length → DataW.weightsEach P (ts ++ us) l = DataW.weightsEach P ts l := by
      intro ts
      induction ts with
      | nil => intro us l h; have : l = [] := List.length_eq_zero_iff.1 h; subst this; cases us <;> rfl
      | cons t ts ih => intro us l h; cases l with
        | nil => simp at h
        | cons d l => simp only [List.cons_append, DataW.weightsEach]; rw [ih us l (by simpa using h)]
    rw [hap _ _ _ hl] at hz
    simpa using hz
  obtain ⟨ls, h1, h2, hbk⟩ := args_typed hsys.tab hL (base := base) htsL (fun j t v hj hv => hval j t v (by rw [← hts] at hj; simpa using hj) (by simpa using hv)) hA hz'
  have hw : WRel ⟨[], csize W⟩ [] W := ⟨rfl, by simp [blks, livB], fun b => Nat.le_refl _, hglob⟩
  have hc := (sound hsys f _ [] _ [] hsb (hcall ls h1 (hQ ls hbk))).2 ⟨[], csize W⟩ W args.toList h2 hw
  rw [Array.toArray_toList] at hc
  refine hc.mono fun e W' he => ?_
  obtain ⟨v, m', rfl, hv, hx, _⟩ := he
  simp only [VRel, DRel] at hv
  subst hv
  have hbelow : Below W.heap.size W W' := ⟨hx.os, hx.tape, hx.output, hx.size, fun k hk => hx.kept k hk (by simp [blks, livB])⟩
  have hdl : dd.length = ts.length := (Go.trodAll_length hA).2
  obtain ⟨s1, s2, s3⟩ := hspec dd hdl
  have hfz' : ∀ b off, MemPlace.cell b off ∈ p ++ [] → W'.frozen? ⟨b, off, none⟩ = W.frozen? ⟨b, off, none⟩ := fun b off hp => by
    have hb : b < W.heap.size := hW'.lt _ hp
    have hk := hx.kept b hb (by simp [blks, livB])
    unfold World.frozen?
    show (match W'.heap[b]? with | some (.cells _ _ (lo, hi)) => decide (lo ≤ off) && decide (off < hi) | _ => false) = (match W.heap[b]? with | some (.cells _ _ (lo, hi)) => decide (lo ≤ off) && decide (off < hi) | _ => false)
    rw [hk]
  refine ⟨_, rfl, post_kept (pa := p) hW' (fun b sp hd => ?_) (fun sp hsp => ?_) (fun sp => ?_) (by simp) (hbelow.frame _) hfz' (ok_one hrt rfl (okWide_bool_mk hrb true))⟩
  · rw [List.append_nil, s1, hrt]
    exact trodAll_mk1 (shut_bool hrb true)
  · rw [List.append_nil, s2, hts]
    exact trodAll_stays hl hread hA (fun x hx => hbelow.same (hW'.lt x (by simp [hx]))) (fun x hx => hsp x (by simp [hx]))
  · rw [List.append_nil, s3, hvars]
    exact rfl
/-- A law that answers true, and leaves its input as it was. -/
theorem law_post {S : Sys} (hsys : SysOK P S) {L : List Nat} (hL : closedB S.tab L = true) (hl : laidOutB P = true) {f : Nat} {fn : Func} {ts : List Nat} (hts : fn.params.toList = ts) (htsL : ∀ t ∈ ts, t ∈ L)
    (hread : ∀ t ∈ ts, P.readableRec t = true ∧ t < P.types.size) {rt : Nat} (hrt : fn.resultTypes = #[rt]) (hrb : P.underlying rt = some .bool) {s : ChangeSpec} (hvars : s.vars = [])
    {apart fresh handsOn again : Bool} {base : Nat} {args : Array Value} {dd gs : List (DataW H)} {before : List MemPlace}
    (hval : ∀ (j : Nat) t v, fn.params[j]? = some t → args[j]? = some v → Value.okWide P W .any base t v)
    (hW : DataW.Whole enc P fn.params.toList s.vars apart W args.toList dd gs before)
    (hz : (DataW.weightsEach P (fn.params.toList ++ s.plain.varTypes P) (dd ++ gs)).all (· ≤ reachBytes) = true)
    (hspec : ∀ d : List (DataW H), d.length = ts.length → (s.fn H d).results = [.lit (.bool true)] ∧ (s.fn H d).args = d ∧ (s.fn H d).vars = [])
    (hglob : GlobOK [] W) (hsb : siteB f = false) (hcall : ∀ ls, WTs S.tab ts ls → call S f (argsPV S.tab ts ls) [] = some (.d (.bool true), [])) :
    Calls P f args W fun e W' => ∃ v, e = .returned v ∧ s.post enc P fn apart fresh handsOn again W args v W' :=
  law_post_at hsys hL hl hts htsL hread hrt hrb hvars hval hW hz hspec hglob hsb (Q := fun _ => True) (fun _ _ => trivial) fun ls h _ => hcall ls h
/-- A law that answers true where what comes in is not too much. -/
theorem law_upto {S : Sys} (hsys : SysOK P S) {L : List Nat} (hL : closedB S.tab L = true) (hl : laidOutB P = true) {f : Nat} {fn : Func} {ts : List Nat} (hts : fn.params.toList = ts) (htsL : ∀ t ∈ ts, t ∈ L)
    (hread : ∀ t ∈ ts, P.readableRec t = true ∧ t < P.types.size) {rt : Nat} (hrt : fn.resultTypes = #[rt]) (hrb : P.underlying rt = some .bool) {s : ChangeSpec} (hvars : s.vars = [])
    {apart fresh handsOn again : Bool} {base : Nat} {args : Array Value} {dd gs : List (DataW H)} {before : List MemPlace}
    (hval : ∀ (j : Nat) t v, fn.params[j]? = some t → args[j]? = some v → Value.okWide P W .any base t v)
    (hW : DataW.Whole enc P fn.params.toList s.vars apart W args.toList dd gs before)
    (hz : (DataW.weightsEach P (fn.params.toList ++ s.plain.varTypes P) (dd ++ gs)).all (· ≤ reachBytes) = true)
    (hspec : ∀ d : List (DataW H), d.length = ts.length → (s.fn H d).results = [.lit (.bool true)] ∧ (s.fn H d).args = d ∧ (s.fn H d).vars = [])
    (hglob : GlobOK [] W) (hsb : siteB f = false) {B : DataW H → Nat} (hB : IsBulk B) {N : Nat} (hN : (dd.map B).sum ≤ N) (hcall : ∀ ls, WTs S.tab ts ls → bulkRs ls ≤ N → call S f (argsPV S.tab ts ls) [] = some (.d (.bool true), [])) :
    Calls P f args W fun e W' => ∃ v, e = .returned v ∧ s.post enc P fn apart fresh handsOn again W args v W' :=
  law_post_at hsys hL hl hts htsL hread hrt hrb hvars hval hW hz hspec hglob hsb (Q := fun ls => bulkRs ls ≤ N) (fun ls h => Nat.le_trans (h B hB) hN) hcall

end
section
variable {H : Type} {enc : TypeId × Value → H}
/-- A call's contract, where each string and each slice of what is handed in has room. -/
theorem returns_sized {a : Assume} {C : Checked} {os : Os} {f : FuncId} {fn : Func} {s : ChangeSpec} {conds : List PathCond} {apart fresh handsOn again : Bool}
    (own : ownKnob C.prog.godebug = none) (started : os.Started) (noInit : C.prog.inits.idxOf? f = none) (hfn : C.prog.funcs[f]? = some fn)
    (witness : ∃ (w : World) (tape : Tape) (i : Input), w.os = os ∧ (w.forCall tape i).Shaped C.prog ∧ i.vars = [] ∧ Input.okWide C.prog (w.forCall tape i) .any w.heap.size f i ∧
      s.pre6 enc C.prog fn conds apart (w.forCall tape i).memory i.args ∧ a.holds C.prog (lone (Frame.enter C.prog f i.args .normal) [] (w.forCall tape i)))
    (contract : ∀ (W : World) (base : Nat) (args : Array Value) (ds gs : List (DataW H)) (before : List MemPlace),
      (∀ (j : Nat) t v, fn.params[j]? = some t → args[j]? = some v → Value.okWide C.prog W .any base t v) →
      DataW.Whole enc C.prog fn.params.toList s.vars apart W args.toList ds gs before →
      (DataW.weightsEach C.prog (fn.params.toList ++ s.plain.varTypes C.prog) (ds ++ gs)).all (· ≤ reachBytes) = true →
      Calls C.prog f args W fun e W' => ∃ v, e = .returned v ∧ s.post enc C.prog fn apart fresh handsOn again W args v W') :
    ReturnsInHanded a C os f .any (s.pre6 enc C.prog fn conds apart) (s.post enc C.prog fn apart fresh handsOn again) := by
  refine returnsInHanded_of_calls own started noInit witness ?_
  intro w tape i _ _ _ hok hpre hholds
  obtain ⟨_, _, _, fn', hfn', _, _, _, _, hval⟩ := hok
  have e : fn' = fn := Option.some.inj (hfn'.symm.trans hfn)
  subst e
  obtain ⟨⟨ds, gs, before, hw, hc⟩, hz⟩ := hpre
  have hw' := DataW.Whole.of_heap (w' := w.forCall tape i) (by rfl) hw
  refine (contract (w.forCall tape i) w.heap.size i.args ds gs before hval hw' (hz.weights hw)).mono fun e W' ⟨v, he, hp⟩ => ?_
  subst he
  exact ChangeSpec.post_blind hp
end
end Go.X
