/- strings.Builder: what its code does with addresses, as functions of the interpreter; functions that give back what is fixed. -/
import Derived.Test.YtdmpjlpkmokllaaDoorXIto
import Derived.Shelf.Strings.Builder1
namespace Go.X
open Go Go.Shelf Go.RowKit Go.Proofs
set_option linter.unusedSectionVars false
set_option linter.unusedVariables false
/-! The walks, over all programs: the block may hold the builder within another struct. -/
section
variable {P : Program} {ρ : Ren}
set_option maxHeartbeats 1000000 in
set_option maxRecDepth 100000 in
theorem copyCheck_fresh (L : Lays.n240 P ρ) (hsz : (P.info? (ρ.t 72)).map (·.size) = some 2) (T : TypeId) (hlies : liesAt P P.depth T (2 / P.cellsOf T) 0 (ρ.t 72) 1 = true) (b : Nat) (w : World) (h0 : w.cell? ⟨b, 0, none⟩ = some (.pointer none)) (hsh : w.shape? b = some (T, 2)) (hfz : w.frozen? ⟨b, 0, none⟩ = false) :
    Calls P (ρ.f 240) #[.pointer (some ⟨b, 0, none⟩)] w fun e w' => e = .returned (.tuple #[]) ∧ w' = w.setCell ⟨b, 0, none⟩ (.pointer (some ⟨b, 0, none⟩)) := by
  obtain ⟨j, hj, hjs⟩ := Option.map_eq_some_iff.1 hsz
  have mixed := L.mixed
  have t72 := L.t72; have a72 := L.a72; have z72 := L.z72; have v72 := L.v72; have u72 := run_underlying L.t72
  have t70 := L.t70; have a70 := L.a70; have z70 := L.z70; have v70 := L.v70; have u70 := run_underlying L.t70
  have t9 := L.t9; have a9 := L.a9; have z9 := L.z9; have v9 := L.v9; have u9 := run_underlying L.t9
  have t4 := L.t4; have a4 := L.a4; have z4 := L.z4; have v4 := L.v4; have u4 := run_underlying L.t4
  have t164 := L.t164; have a164 := L.a164; have z164 := L.z164; have v164 := L.v164; have u164 := run_underlying L.t164
  go_enter L.f240, Body.n240_ntmps ρ
  go_wp2
  rw [Lib.run_to_unsafe w ⟨b, 0, none⟩ L.t70 L.t164 hj (by rw [hjs]; decide) hsh (Nat.zero_lt_succ 1)]
  simp only [Result.andThen]
  rw [Oper.upon_value]
  go_wp2
  rw [run_callFunc_extern L.f276 (by kernel_rfl) (by kernel_rfl) (by kernel_rfl) (e := Extern.AbiNoEscape.same) (by kernel_rfl)]
  rw [Lib.run_noEscape]
  simp only [Result.andThen]
  rw [Oper.upon_value]
  go_wp2
  rw [Lib.run_from_unsafe w ⟨b, 0, none⟩ L.t164 L.t70 hj hsh hlies]
  simp only [Result.andThen]
  rw [Oper.upon_value]
  go_wp2
  go_end0
  exact ⟨rfl, rfl⟩
set_option maxHeartbeats 1000000 in
set_option maxRecDepth 100000 in
theorem copyCheck_used (L : Lays.n240 P ρ) (hsz : (P.info? (ρ.t 72)).map (·.size) = some 2) (b : Nat) (w : World) (h0 : w.cell? ⟨b, 0, none⟩ = some (.pointer (some ⟨b, 0, none⟩))) :
    Calls P (ρ.f 240) #[.pointer (some ⟨b, 0, none⟩)] w fun e w' => e = .returned (.tuple #[]) ∧ w' = w := by
  obtain ⟨j, hj, _⟩ := Option.map_eq_some_iff.1 hsz
  have mixed := L.mixed
  have t72 := L.t72; have a72 := L.a72; have z72 := L.z72; have v72 := L.v72; have u72 := run_underlying L.t72
  have t70 := L.t70; have a70 := L.a70; have z70 := L.z70; have v70 := L.v70; have u70 := run_underlying L.t70
  have t9 := L.t9; have a9 := L.a9; have z9 := L.z9; have v9 := L.v9; have u9 := run_underlying L.t9
  have t4 := L.t4; have a4 := L.a4; have z4 := L.z4; have v4 := L.v4; have u4 := run_underlying L.t4
  have t164 := L.t164; have a164 := L.a164; have z164 := L.z164; have v164 := L.v164; have u164 := run_underlying L.t164
  go_enter L.f240, Body.n240_ntmps ρ
  go_wp2
  rw [Lib.run_neq_ptr_same w _ L.t70 hj]
  go_wp2
  go_end0
  exact ⟨rfl, rfl⟩
set_option maxHeartbeats 2000000 in
set_option maxRecDepth 100000 in
theorem string_row (L : Lays.n169 P ρ) {E : TypeId} (hE : E = ρ.t 5) (a5 : ∀ w, (isAgg (ρ.t 5)).run P w = .ok false w) (t5 : P.underlying (ρ.t 5) = some (.int .u8)) (z5 : ∀ w, (Go.sizeOf (ρ.t 5)).run P w = .ok 1 w) (v5 : ∀ w, (zeroValue (ρ.t 5)).run P w = .ok (.int .u8 0) w) (hcb : P.cellsOf (ρ.t 5) = 1) (b g cap : Nat) (cur : Array Value) (l : List UInt8) (w : World) (h1 : w.cell? ⟨b, 1, none⟩ = some (.slice (some ⟨g, 0, none⟩) l.length cap))
    (hg : w.heap[g]? = some (.cells cur E (0, 0))) (h0 : l ≠ []) (hn : l.length ≤ cur.size) (hc : l.length ≤ cap) (h63 : l.length ≤ 9223372036854775807) (hcell : ∀ (j : Nat) x, l[j]? = some x → w.cell? ⟨g, j, none⟩ = some (.int .u8 x.toNat)) :
    Calls P (ρ.f 169) #[.pointer (some ⟨b, 0, none⟩)] w fun e w' => e = .returned (.string ⟨l.toArray⟩) ∧ ∃ k, w' = (w.drewN k).freeze ⟨g, 0, none⟩ l.length := by
  subst hE
  have hl0 : l.length ≠ 0 := by simpa using h0
  have c1 : w.drew.cell? ⟨b, 1, none⟩ = some (.slice (some ⟨g, 0, none⟩) l.length cap) := h1
  have hSD : (Builtin.unsafeSliceData_ #[(ρ.t 37)] (ρ.t 127) #[.slice (some ⟨g, 0, none⟩) l.length cap]).run P w.drew = .ok (.pointer (some ⟨g, 0, none⟩)) w.drew :=
    Lib.run_unsafeSliceData_row _ _ _ _ _ _ (by omega)
  have hUS : (Builtin.unsafeString_ #[(ρ.t 127), (ρ.t 3)] (ρ.t 9) #[.pointer (some ⟨g, 0, none⟩), .int .i64 l.length]).run P w.drew = .ok (.string ⟨l.toArray⟩) (w.drew.freeze ⟨g, 0, none⟩ l.length) := by
    refine Lib.run_unsafeString_row w.drew (ρ.t 127) (ρ.t 3) (ρ.t 9) (ρ.t 5) L.t127 hcb g cur.size (by have hg' : w.drew.heap[g]? = some (.cells cur (ρ.t 5) (0, 0)) := hg; simp [World.shape?, hg']) l h0 hn h63 ?_
    intro j x hx
    have := hcell j x hx
    rw [Lib.add_plain, Nat.zero_add]
    exact this
  have mixed := L.mixed
  have t72 := L.t72; have a72 := L.a72; have z72 := L.z72; have v72 := L.v72; have u72 := run_underlying L.t72
  have t70 := L.t70; have a70 := L.a70; have z70 := L.z70; have v70 := L.v70; have u70 := run_underlying L.t70
  have t37 := L.t37; have a37 := L.a37; have z37 := L.z37; have v37 := L.v37; have u37 := run_underlying L.t37
  have t127 := L.t127; have a127 := L.a127; have z127 := L.z127; have v127 := L.v127; have u127 := run_underlying L.t127
  have t3 := L.t3; have a3 := L.a3; have z3 := L.z3; have v3 := L.v3; have u3 := run_underlying L.t3
  have t9 := L.t9; have a9 := L.a9; have z9 := L.z9; have v9 := L.v9; have u9 := run_underlying L.t9
  have u5 := run_underlying t5
  go_enter L.f169, Body.n169_ntmps ρ
  go_wp2
  go_region_o
  all_goals (go_wp2; go_ret; exact ⟨rfl, 1, rfl⟩)
end
variable [Sites]
/-- Is it there? -/
def copyF (ts : List Nat) : List PV → St → Option (PV × St) := fun args st => match args with
  | [.ptr l i 0] => match look st l i with
    | some (.box ty [.d .nilp, c1]) => bif mem ty ts then some (.tup [], setO st l i (.box ty [.ptr 0 i 0, c1])) else none
    | some (.box ty [.ptr 0 j 0, c1]) => bif Nat.beq i j then some (.tup [], st) else none
    | _ => none
  | _ => none
def bytesOf : List (List D) → Option (List UInt8)
  | [] => some []
  | [.int .u8 n] :: r => bif decide (0 ≤ n) && decide (n ≤ 255) then (bytesOf r).map (UInt8.ofNat n.toNat :: ·) else none
  | _ => none
/-- String: the row of bytes is no row any more, since it must not be written. -/
def stringF (E : Nat) : List PV → St → Option (PV × St) := fun args st => match args with
  | [.ptr l i 0] => match look st l i with
    | some (.box ty [c0, .row 0 j n]) => match look st l j with
      | some (.row e sz rows mt cap) => bif Nat.beq e E && Nat.beq sz 1 && Nat.ble 1 rows.length && Nat.ble rows.length 140737488355328 && decide (n = (rows.length : Int)) then (match bytesOf rows with
        | some bs => some (.d (.str ⟨bs.toArray⟩), setO st l j .void)
        | none => none) else none
      | _ => none
    | _ => none
  | _ => none
/-- What is fixed. -/
def fixF (r : PV) : List PV → St → Option (PV × St) := fun args st => match args with
  | [] => some (r, st)
  | _ => none
theorem fix_foreign {P : Program} {f : Nat} {r : PV} {v : Value} (hn : fnNamed P f) (hr : ∀ (m : Mt) (w : World), VRel m.blk m.cl w r v)
    (hc : ∀ w : World, Calls P f #[] w fun e w' => e = .returned v ∧ ∃ k os, w' = Sort.grow (w.drewN k) os) :
    fnNamed P f ∧ ∀ (args : List PV) (st : St) (r' : PV) (st' : St), fixF r args st = some (r', st') → ∀ (m : Mt) (w : World) (vs : List Value), VList m.blk m.cl w args vs → WRel m st w →
      Calls P f vs.toArray w fun e w' => ∃ v m', e = .returned v ∧ VRel m'.blk m'.cl w' r' v ∧ Ext m w m' w' ∧ WRel m' st' w' := by
  refine ⟨hn, fun args st r' st' ha m w vs hv hw => ?_⟩
  unfold fixF at ha
  split at ha
  · cases ha
    simp only [VList] at hv
    subst hv
    refine (hc w).mono ?_
    rintro e w' ⟨rfl, k, os, rfl⟩
    obtain ⟨hx, hw'⟩ := hw.grown (w' := Sort.grow (w.drewN k) os) (os := os) rfl rfl rfl rfl
    exact ⟨_, m, rfl, hr m _, hx, hw'⟩
  · cases ha
theorem upE_ent {bl : List (List Ent)} {l i : Nat} {e : Ent} (h : ent bl l i = some e) : ent (upE bl l) 0 i = some e := by rw [ent_upE, Nat.zero_add]; exact h
theorem copy_foreign {P : Program} {ts : List Nat} {f : Nat} (hn : fnNamed P f)
    (hc1 : ∀ T, mem T ts = true → ∀ (b : Nat) (w : World), w.cell? ⟨b, 0, none⟩ = some (.pointer none) → w.shape? b = some (T, 2) → w.frozen? ⟨b, 0, none⟩ = false → Calls P f #[.pointer (some ⟨b, 0, none⟩)] w fun e w' => e = .returned (.tuple #[]) ∧ w' = w.setCell ⟨b, 0, none⟩ (.pointer (some ⟨b, 0, none⟩)))
    (hc2 : ∀ (b : Nat) (w : World), w.cell? ⟨b, 0, none⟩ = some (.pointer (some ⟨b, 0, none⟩)) → Calls P f #[.pointer (some ⟨b, 0, none⟩)] w fun e w' => e = .returned (.tuple #[]) ∧ w' = w) :
    fnNamed P f ∧ ∀ (args : List PV) (st : St) (r' : PV) (st' : St), copyF ts args st = some (r', st') → ∀ (m : Mt) (w : World) (vs : List Value), VList m.blk m.cl w args vs → WRel m st w →
      Calls P f vs.toArray w fun e w' => ∃ v m', e = .returned v ∧ VRel m'.blk m'.cl w' r' v ∧ Ext m w m' w' ∧ WRel m' st' w' := by
  refine ⟨hn, fun args st r' st' ha m w vs hv hw => ?_⟩
  unfold copyF at ha
  split at ha
  rotate_left
  · cases ha
  rename_i l i
  simp only [VList, VRel] at hv
  obtain ⟨v1, s1, rfl, ⟨e, p1, p0, rfl⟩, rfl⟩ := hv
  split at ha
  · rename_i ty c1 hl
    obtain ⟨e', k3, k4⟩ := hw.st.look_ hl
    rw [p1] at k3; cases k3
    simp only [ObjRel] at k4
    obtain ⟨k5, k6, vs, k7, k8⟩ := k4
    simp only [VCells] at k8
    obtain ⟨u0, s0, rfl, q1, q2, u1, s1, rfl, q3, q4, rfl⟩ := k8
    simp only [VRel, DRel] at q1
    subst q1
    cases hm : mem ty ts with
    | false => simp [hm] at ha
    | true =>
    simp only [hm, cond_true, Option.some.injEq, Prod.mk.injEq] at ha
    obtain ⟨rfl, rfl⟩ := ha
    refine (hc1 ty hm e.b w (by simp [World.cell?, k7]) (by simp [World.shape?, k7]) (by simp [World.frozen?, k7])).mono ?_
    rintro ex w' ⟨rfl, rfl⟩
    have hnew : (w.setCell ⟨e.b, 0, none⟩ (.pointer (some ⟨e.b, 0, none⟩))).heap[e.b]? = some (.cells #[.pointer (some ⟨e.b, 0, none⟩), u1] ty (0, 0)) := by
      simp [World.setCell, Array.getElem?_modify, k7]
    obtain ⟨m2, rfl, x2, w2⟩ := hw.put (l := l) (i := i) (w' := w.setCell ⟨e.b, 0, none⟩ (.pointer (some ⟨e.b, 0, none⟩))) p1 (gone_box p0)
      (fun b hb => by simp [World.setCell, Array.getElem?_modify, Ne.symm hb]) (fun a ha => by simp only [World.frozen?, ha, hnew, k7]) (by simp [World.setCell]) rfl rfl rfl (o := .box ty [.ptr 0 i 0, c1]) (e' := e) rfl (EntLe.refl e) (n := 0) (by omega) (Nat.zero_le _) (fun j hj => by omega)
      (fun hk he => by
        simp only [ObjRel, if_true]
        refine ⟨k5, trivial, [_, u1], hnew, ?_⟩
        simp only [VCells]
        refine ⟨_, _, rfl, ?_, rfl, _, _, rfl, q3.keep hk (EntsLe.upE l he), q4, rfl⟩
        simp only [VRel]
        exact ⟨e, upE_ent (ent_setE_same p1), p0, rfl⟩)
    exact ⟨_, _, rfl, ⟨[], rfl, rfl⟩, x2, w2⟩
  · rename_i ty j c1 hl
    obtain ⟨e', k3, k4⟩ := hw.st.look_ hl
    rw [p1] at k3; cases k3
    simp only [ObjRel] at k4
    obtain ⟨k5, k6, vs, k7, k8⟩ := k4
    simp only [VCells] at k8
    obtain ⟨u0, s0, rfl, q1, q2, u1, s1, rfl, q3, q4, rfl⟩ := k8
    simp only [VRel] at q1
    cases hij : Nat.beq i j with
    | false => simp [hij] at ha
    | true =>
    simp only [hij, cond_true, Option.some.injEq, Prod.mk.injEq] at ha
    obtain ⟨rfl, rfl⟩ := ha
    obtain rfl := Nat.eq_of_beq_eq_true hij
    obtain ⟨e2, g1, g2, rfl⟩ := q1
    rw [upE_ent p1] at g1; cases g1
    refine (hc2 e.b w (by simp [World.cell?, k7])).mono ?_
    rintro ex w' ⟨rfl, rfl⟩
    exact ⟨_, m, rfl, ⟨[], rfl, rfl⟩, Ext.refl _ _, hw⟩
  · cases ha
theorem bytes_cells {cl : Nat → Nat} {w : World} : ∀ {rows : List (List D)} {bs : List UInt8} {b o : Nat}, bytesOf rows = some bs → DRows cl w b o 1 rows → bs.length = rows.length ∧ ∀ (j : Nat) x, bs[j]? = some x → w.cell? ⟨b, o + j, none⟩ = some (.int .u8 x.toNat)
  | [], bs, b, o, h, _ => by
    cases h
    exact ⟨rfl, fun j x h => by simp at h⟩
  | r :: rows, bs, b, o, h, hd => by
    simp only [DRows] at hd
    unfold bytesOf at h
    split at h
    · rename_i h0; cases h0
    · rename_i n r' h0
      simp only [List.cons.injEq] at h0
      obtain ⟨rfl, rfl⟩ := h0
      cases hb : (decide (0 ≤ n) && decide (n ≤ 255)) with
      | false => rw [hb] at h; cases h
      | true =>
      rw [hb, cond_true, Option.map_eq_some_iff] at h
      obtain ⟨bs', h1, rfl⟩ := h
      simp only [Bool.and_eq_true, decide_eq_true_eq] at hb
      obtain ⟨g1, g2⟩ := bytes_cells h1 hd.2.2
      refine ⟨by simp [g1], fun j x hx => ?_⟩
      cases j with
      | zero =>
        simp only [List.getElem?_cons_zero, Option.some.injEq] at hx
        subst hx
        have := hd.2.1
        simp only [DCells, DRel] at this
        obtain ⟨⟨v, hc, rfl⟩, _⟩ := this
        rw [Nat.add_zero, hc]
        congr 2
        rw [UInt8.toNat_ofNat']
        omega
      | succ j =>
        have := g2 j x (by simpa using hx)
        rw [← this]
        congr 2
        omega
    · cases h
/-- One object is another one now; its block may be frozen. -/
theorem WRel.putz {m : Mt} {st : St} {w w' : World} (hw : WRel m st w) {l i : Nat} {e : Ent} (he : ent m.blk l i = some e) (hg : e.gone = false) (hsame : ∀ b, b ≠ e.b → w'.heap[b]? = w.heap[b]?) (hsz : w'.heap.size = w.heap.size) (os : w'.os = w.os) (tape : w'.tape = w.tape) (output : w'.output = w.output)
    (hcl : m.cl e.b ≤ csize w' e.b) (hcells : ∀ j, w'.cell? ⟨e.b, j, none⟩ = w.cell? ⟨e.b, j, none⟩) {e' : Ent} (hb : e'.b = e.b) (hle : EntLe e e') (hgone : e'.gone = true) :
    Ext m w ⟨setE m.blk l i e', m.cl⟩ w' ∧ WRel ⟨setE m.blk l i e', m.cl⟩ (setO st l i .void) w' := by
  have hk : Keeps m.cl w m.cl w' := by
    refine ⟨fun b => Nat.le_refl _, fun b j hj => ?_⟩
    by_cases h : b = e.b
    · subst h; exact hcells j
    · exact World.cell?_of_block (hsame b h)
  have hmem := ent_mem he hg
  have hnew : ∀ b ∈ blks (setE m.blk l i e'), b ∈ blks m.blk ∨ w.heap.size ≤ b := fun b hb' => by
    rcases blks_setE he _ hb' with ⟨_, h⟩ | h
    · left; rw [h, hb]; exact hmem
    · exact .inl h
  refine ⟨⟨hk, EntsLe.setE he hle, os, tape, output, by omega, fun b _ hb' => hsame b fun h => hb' (h ▸ hmem), hnew⟩, ⟨?_, ?_, fun b => ?_, hw.glob.step (fun b _ hb' => hsame b fun h => hb' (h ▸ hmem)) hnew⟩⟩
  · exact hw.st.set_ hk he hle (by simp only [ObjRel]; exact hgone) hw.nodup fun b _ hne => ⟨hsame b (hne hg), rfl⟩
  · exact nodup_setE he hw.nodup (.inr (.inl ⟨hg, hb⟩))
  · by_cases h : b = e.b
    · subst h; exact hcl
    · show m.cl b ≤ _
      rw [csize_same (hsame b h)]; exact hw.le b
theorem freeze_heap (w : World) (g n : Nat) (hn : n ≠ 0) {cur : Array Value} {E : Nat} (hg : w.heap[g]? = some (.cells cur E (0, 0))) : (w.freeze ⟨g, 0, none⟩ n).heap[g]? = some (.cells cur E (0, 0 + n)) := by
  unfold World.freeze
  rw [if_neg hn]
  simp [Array.getElem?_modify, hg]
theorem string_foreign {P : Program} {E f : Nat} (hn : fnNamed P f)
    (hc : ∀ (b g cap : Nat) (cur : Array Value) (l : List UInt8) (w : World), w.cell? ⟨b, 1, none⟩ = some (.slice (some ⟨g, 0, none⟩) l.length cap) → w.heap[g]? = some (.cells cur E (0, 0)) → l ≠ [] → l.length ≤ cur.size → l.length ≤ cap → l.length ≤ 9223372036854775807 →
      (∀ (j : Nat) x, l[j]? = some x → w.cell? ⟨g, j, none⟩ = some (.int .u8 x.toNat)) →
      Calls P f #[.pointer (some ⟨b, 0, none⟩)] w fun e w' => e = .returned (.string ⟨l.toArray⟩) ∧ ∃ k, w' = (w.drewN k).freeze ⟨g, 0, none⟩ l.length) :
    fnNamed P f ∧ ∀ (args : List PV) (st : St) (r' : PV) (st' : St), stringF E args st = some (r', st') → ∀ (m : Mt) (w : World) (vs : List Value), VList m.blk m.cl w args vs → WRel m st w →
      Calls P f vs.toArray w fun e w' => ∃ v m', e = .returned v ∧ VRel m'.blk m'.cl w' r' v ∧ Ext m w m' w' ∧ WRel m' st' w' := by
  refine ⟨hn, fun args st r' st' ha m w vs hv hw => ?_⟩
  unfold stringF at ha
  split at ha
  rotate_left
  · cases ha
  rename_i l i
  simp only [VList, VRel] at hv
  obtain ⟨v1, s1, rfl, ⟨e, p1, p0, rfl⟩, rfl⟩ := hv
  split at ha
  rotate_left
  · cases ha
  rename_i ty c0 j n hl
  split at ha
  rotate_left
  · cases ha
  rename_i ety sz rows mt cap hlj
  cases hcond : (Nat.beq ety E && Nat.beq sz 1 && Nat.ble 1 rows.length && Nat.ble rows.length 140737488355328 && decide (n = (rows.length : Int))) with
  | false => simp [hcond] at ha
  | true =>
  simp only [hcond, cond_true] at ha
  simp only [Bool.and_eq_true, decide_eq_true_eq] at hcond
  obtain ⟨⟨⟨⟨h1, h2⟩, h3⟩, h4⟩, rfl⟩ := hcond
  obtain rfl := Nat.eq_of_beq_eq_true h1
  obtain rfl := Nat.eq_of_beq_eq_true h2
  have h3 := Nat.le_of_ble_eq_true h3
  have h4 := Nat.le_of_ble_eq_true h4
  split at ha
  rotate_left
  · cases ha
  rename_i bs hbs
  simp only [Option.some.injEq, Prod.mk.injEq] at ha
  obtain ⟨rfl, rfl⟩ := ha
  obtain ⟨e', k3, k4⟩ := hw.st.look_ hl
  rw [p1] at k3; cases k3
  simp only [ObjRel] at k4
  obtain ⟨k5, k6, vs, k7, k8⟩ := k4
  simp only [VCells] at k8
  obtain ⟨u0, s0, rfl, q1, q2, u1, s1, rfl, q3, q4, rfl⟩ := k8
  obtain ⟨ej, j3, j4⟩ := hw.st.look_ hlj
  simp only [ObjRel] at j4
  obtain ⟨g1, g2, g3, g4, g5, g⟩ := j4
  simp only [VRel] at q3
  obtain ⟨e2, r1, r2, r3, r4⟩ := q3
  rw [upE_ent j3] at r1; cases r1
  rcases r4 with ⟨r4, _⟩ | ⟨bb, cc, rfl, r5⟩
  · omega
  obtain ⟨rfl, rfl, hgone⟩ := r5 g3.symm
  obtain ⟨⟨cs, g6, g7⟩, g8, g9⟩ := g hgone
  obtain ⟨b1, b2⟩ := bytes_cells hbs g8
  have hb0 : bs ≠ [] := fun h => by rw [h] at b1; simp at b1; omega
  have hbl : bs.length ≠ 0 := by omega
  refine (hc e.b ej.b ej.cap cs bs w (by simp [World.cell?, k7, b1]) g6 hb0 (by omega) (by omega) (by omega) (fun q x hx => by have := b2 q x hx; rwa [Nat.zero_add] at this)).mono ?_
  rintro ex w' ⟨rfl, k, rfl⟩
  have hfz := freeze_heap (w.drewN k) ej.b bs.length hbl (show (w.drewN k).heap[ej.b]? = _ from g6)
  have hsame : ∀ b, b ≠ ej.b → ((w.drewN k).freeze ⟨ej.b, 0, none⟩ bs.length).heap[b]? = w.heap[b]? := fun b hb => by
    unfold World.freeze
    rw [if_neg hbl]
    simp only [Array.getElem?_modify, Ne.symm hb, if_false]
    rfl
  have hx := hw.putz (l := l) (i := j) (w' := (w.drewN k).freeze ⟨ej.b, 0, none⟩ bs.length) j3 hgone hsame (by unfold World.freeze; rw [if_neg hbl]; simp) (by unfold World.freeze; rw [if_neg hbl]; rfl) (by unfold World.freeze; rw [if_neg hbl]; rfl) (by unfold World.freeze; rw [if_neg hbl]; rfl)
    (by
      have h5 := hw.le ej.b
      have h6 : csize ((w.drewN k).freeze ⟨ej.b, 0, none⟩ bs.length) ej.b = csize w ej.b := by simp only [csize, hfz, g6]
      rw [h6]; exact h5)
    (fun q => by simp only [World.cell?, hfz, g6]) (e' := ⟨ej.b, ej.len + 1, ej.sz, 0⟩) rfl ⟨by show ej.len ≤ ej.len + 1; omega, rfl, fun hh => by
      rcases hh with hh | hh
      · exact absurd hh (by show ¬ (ej.len + 1 = ej.len); omega)
      · omega⟩ (by simp [Ent.gone, Nat.blt, Nat.ble, g2])
  exact ⟨_, _, rfl, by simp only [VRel, DRel], hx.1, hx.2⟩
end Go.X
