/- Whatever is handed in, tapestry/tapestrylaw07.NormUnlike answers true, and what it read reads behind the call as it read before: the row normUnlikeRow, with no condition ahead of it. Road: an interpreter over the loaded code, sound once for all programs; functions on plain data that it is shown to compute; a plain law of these. -/
import Derived.Test.YtjoinlfkebgfkaaDoorNUL7
import Derived.Test.YtjoinlfkebgfkaaDoorNUK
import Derived.Test.YtjoinlfkebgfkaaDoorNUS
import Derived.ProofKit
import Derived.JoinedCond
import Derived.Deep.DeepHandedRow
import Derived.Deep.DeepWitnessRowRef
import Derived.LaidMore
import Derived.Stop.Joined
import Derived.LaidSub
import Derived.Test.YtjoinlfkebgfkaaDoorTie
import Derived.Test.YtjoinlfkebgfkaaDoorCards
import Derived.SevenTiedAt
namespace Go.Proofs.YtjoinlfkebgfkaaDoor
open Go Go.X Go.ChangeShapes Go.WideShapes Go.ChangeAt Go.RowKit
set_option maxRecDepth 100000
theorem sys_ok : SysOK Tryd.prog S where
  tab := tab_is_ok
  mixed := by kernel_rfl
  fn := fnOf_spec (by
    intro p hp
    simp only [List.mem_cons, List.not_mem_nil, or_false] at hp
    rcases hp with rfl | rfl | rfl | rfl | rfl | rfl | rfl | rfl | rfl | rfl | rfl | rfl | rfl | rfl | rfl | rfl | rfl | rfl | rfl | rfl | rfl | rfl | rfl | rfl | rfl | rfl | rfl | rfl | rfl
    · exact ⟨Tryd.func3, by kernel_rfl⟩
    · exact ⟨Tryd.func4, by kernel_rfl⟩
    · exact ⟨Tryd.func7, by kernel_rfl⟩
    · exact ⟨Tryd.func8, by kernel_rfl⟩
    · exact ⟨Tryd.func9, by kernel_rfl⟩
    · exact ⟨Tryd.func10, by kernel_rfl⟩
    · exact ⟨Tryd.func13, by kernel_rfl⟩
    · exact ⟨Tryd.func14, by kernel_rfl⟩
    · exact ⟨Tryd.func15, by kernel_rfl⟩
    · exact ⟨Tryd.func16, by kernel_rfl⟩
    · exact ⟨Tryd.func17, by kernel_rfl⟩
    · exact ⟨Tryd.func18, by kernel_rfl⟩
    · exact ⟨Tryd.func19, by kernel_rfl⟩
    · exact ⟨Tryd.func20, by kernel_rfl⟩
    · exact ⟨Tryd.func21, by kernel_rfl⟩
    · exact ⟨Tryd.func22, by kernel_rfl⟩
    · exact ⟨Tryd.func24, by kernel_rfl⟩
    · exact ⟨Tryd.func25, by kernel_rfl⟩
    · exact ⟨Tryd.func26, by kernel_rfl⟩
    · exact ⟨Tryd.func27, by kernel_rfl⟩
    · exact ⟨Tryd.func28, by kernel_rfl⟩
    · exact ⟨Tryd.func33, by kernel_rfl⟩
    · exact ⟨Tryd.func34, by kernel_rfl⟩
    · exact ⟨Tryd.func35, by kernel_rfl⟩
    · exact ⟨Tryd.func36, by kernel_rfl⟩
    · exact ⟨Tryd.func37, by kernel_rfl⟩
    · exact ⟨Tryd.func43, by kernel_rfl⟩
    · exact ⟨Tryd.func44, by kernel_rfl⟩
    · exact ⟨Tryd.func45, by kernel_rfl⟩)
  sites := sites_spec (fun _ => rfl) (by
    intro p hp
    simp only [List.mem_cons, List.not_mem_nil, or_false] at hp
    rcases hp with rfl | rfl | rfl | rfl | rfl | rfl | rfl | rfl | rfl | rfl | rfl | rfl | rfl | rfl | rfl | rfl | rfl | rfl | rfl | rfl | rfl | rfl | rfl | rfl | rfl | rfl | rfl | rfl | rfl
    · exact .inl (by kernel_rfl)
    · exact .inl (by kernel_rfl)
    · exact .inl (by kernel_rfl)
    · exact .inl (by kernel_rfl)
    · exact .inr ⟨by kernel_rfl, by kernel_rfl⟩
    · exact .inl (by kernel_rfl)
    · exact .inl (by kernel_rfl)
    · exact .inl (by kernel_rfl)
    · exact .inl (by kernel_rfl)
    · exact .inl (by kernel_rfl)
    · exact .inl (by kernel_rfl)
    · exact .inl (by kernel_rfl)
    · exact .inl (by kernel_rfl)
    · exact .inl (by kernel_rfl)
    · exact .inl (by kernel_rfl)
    · exact .inl (by kernel_rfl)
    · exact .inl (by kernel_rfl)
    · exact .inl (by kernel_rfl)
    · exact .inl (by kernel_rfl)
    · exact .inl (by kernel_rfl)
    · exact .inl (by kernel_rfl)
    · exact .inl (by kernel_rfl)
    · exact .inl (by kernel_rfl)
    · exact .inl (by kernel_rfl)
    · exact .inl (by kernel_rfl)
    · exact .inl (by kernel_rfl)
    · exact .inl (by kernel_rfl)
    · exact .inl (by kernel_rfl)
    · exact .inl (by kernel_rfl))
  site := fun g q h => site_spec (F := siteF) (L := siteL) (by
    intro p hp
    simp only [siteL, List.mem_cons, List.not_mem_nil, or_false] at hp
    first
    | exact hp.elim
    | (subst hp; exact ⟨by kernel_rfl, by kernel_rfl, by kernel_rfl⟩)
    | (rcases hp with rfl | rfl <;> exact ⟨by kernel_rfl, by kernel_rfl, by kernel_rfl⟩)) g q h
  foreign := pickOf_spec (by
    intro p hp
    simp only [List.mem_cons, List.not_mem_nil, or_false] at hp
    rcases hp with rfl | rfl
    · exact closed_foreign sys0_ok XFL_ok XSL_ok rfl closed6
    · exact itoa_foreign (g := 0) (by kernel_rfl) (List.mem_singleton.2 rfl) ⟨_, Tryd.func23, by decide +kernel, by kernel_rfl⟩ Tryd.internal_strconv_FormatInt_10)
theorem Tryd.own : ownKnob Tryd.prog.godebug = none := by kernel_rfl
theorem Tryd.laidOut : laidOutB Tryd.prog = true := by kernel_rfl
theorem door_met (os : Os) (args : Array Go.Value) : laidMetH Tryd.prog Rows.normUnlikeUptoRow.laid ((World.doorLaid Tryd.prog 400 os).forCall (fun _ _ => 0) ⟨#[], args, []⟩).memory :=
  laidMetH_of_parts3 (fuel := 8) (laidMet_of_run' 8 (by kernel_rfl) (by kernel_rfl)) (by kernel_rfl) (by kernel_rfl)
theorem glob_met {W : World} (h : laidMetH Tryd.prog Rows.normUnlikeUptoRow.laid W) : GlobOK [] W := by
  have h1 := (laidMetH_iff.1 h).1.filter (fun x => x.1 == "internal/strconv.uint64pow10")
  rw [show List.filter (fun x => x.1 == "internal/strconv.uint64pow10") (List.filter (fun x => x.2.handleName?.isNone) Rows.normUnlikeUptoRow.laid) = [("internal/strconv.uint64pow10", Lib.tabData .u64 Lib.pow10Tab)] by kernel_rfl] at h1
  exact glob_laid (g := 0) (by kernel_rfl) (Lib.tabIs_of_head (g := 0) (t := 72) (n := 20) (e := 59) (by kernel_rfl) (by kernel_rfl) (by kernel_rfl) (by kernel_rfl) (by kernel_rfl) (by kernel_rfl) h1) (fun q hq => List.mem_singleton.1 hq)
theorem bulk_all {H : Type} : ∀ l : List (DataW H), Rows.uptoBulkAll l = (l.map Rows.uptoBulk).sum
  | [] => by simp [Rows.uptoBulkAll]
  | x :: r => by rw [Rows.uptoBulkAll, bulk_all r]; simp
theorem is_bulk {H : Type} : IsBulk (Rows.uptoBulk (H := H)) where
  one := fun d => by cases d with
    | lit l => cases l <;> simp [Rows.uptoBulk]
    | _ => simp [Rows.uptoBulk]
  str := fun s => by simp [Rows.uptoBulk]
  slice := fun e s => by rw [Rows.uptoBulk, bulk_all, bulk_all]; omega
  agg := fun p => by rw [Rows.uptoBulk, bulk_all]; omega
theorem small_of {H : Type} {dd gs : List (DataW H)} (h : Rows.uptoSmall H (dd ++ gs) = true) : (dd.map Rows.uptoBulk).sum ≤ 1048576 := by
  have h1 : Rows.uptoBulkAll (dd ++ gs) ≤ 1048576 := of_decide_eq_true h
  rw [bulk_all, List.map_append, List.sum_append] at h1
  omega
theorem normUnlike_lifted (os : Os) (started : os.Started) (H : Type) (enc : TypeId × Go.Value → H) (F : Stop.Interp) :
    ReturnsInHanded {} Tryd.checked os 3 .any ((Rows.OpenSpec.upto Rows.normUnlikeSpec).preRow enc Tryd.prog Tryd.f3 Rows.normUnlikeUptoRow.domain false Rows.normUnlikeUptoRow.laid) (((Rows.OpenSpec.upto Rows.normUnlikeSpec).at F).post enc Tryd.prog Tryd.f3 false true false false) := by
  refine returnsInHanded_of_row (C := Tryd.checked) (s := Rows.OpenSpec.upto Rows.normUnlikeSpec) Tryd.own started (by kernel_rfl) Tryd.func3
    (witness_row_atRef (enc := enc) (C := Tryd.checked) false (World.doorLaid Tryd.prog 400 os) #[.slice none 0 0] rfl (by kernel_rfl) (by kernel_rfl) (by kernel_rfl)
      (OpenSpec.preRow_of_cond 8 (x := ([.nil], [], [])) (by kernel_rfl) (by kernel_rfl) (fun k hk => by cases hk; kernel_rfl) (by kernel_rfl) (door_met os _))) ?_
  intro W base args dd gs before hval hW _ hcond hz hlaid _ _
  have hk := hcond _ rfl
  exact law_upto sys_ok (L := [22, 32, 29, 2, 9, 30, 57, 28, 4]) (by kernel_rfl) Tryd.laidOut (f := 3) (fn := Tryd.f3) (ts := [22]) rfl (by decide) (by
      intro t ht
      simp only [List.mem_cons, List.not_mem_nil, or_false, or_self] at ht
      subst ht; exact ⟨by kernel_rfl, of_decide_eq_true (by kernel_rfl)⟩) (rt := 4) rfl (by kernel_rfl) (s := Rows.normUnlikeSpec) rfl hval hW hz
    (fun d hd => by
      match d, hd with
      | [_], _ => exact ⟨rfl, rfl, rfl⟩) (glob_met hlaid) (by kernel_rfl) is_bulk (small_of hk) law3
theorem normUnlike_row : Rows.NormUnlikeUptoSaid :=
  OpenClaim.holds_of_cond 3 Tryd.f3 rfl rfl rfl rfl rfl rfl rfl ⟨rfl, rfl, rfl, rfl, rfl⟩ rfl rfl rfl rfl rfl (by kernel_rfl) Tryd.func3 (by kernel_rfl)
    (of_decide_eq_true (by kernel_rfl)) (by unfold Func.isWrapper; first | (rw [if_pos (by decide +kernel)]; kernel_rfl) | (rw [if_neg (by decide +kernel)]; exact ⟨rfl, rfl⟩))
    (fun os started H enc _ F => by rw [OpenClaim.pre_eq_preRow]; exact normUnlike_lifted os started H enc F)
-- the card: the row, with what it lists tied to the program's text
theorem normUnlike_holds : Rows.NormUnlikeUptoCardSaid :=
  Claim7.holds_tied_plain_at .later [] Rows.normUnlikeUptoCard.laidKinds true Rows.normUnlikeUptoCard.stood.harness false
    normUnlike_row (fun _ h => by cases h) (by kernel_rfl) (fun _ h => by cases h) normUnlikeUpto_row_tie rfl ⟨rfl, rfl⟩ (by kernel_rfl) rfl
    (fun f fn hf hfn => by
      obtain rfl : f = 3 := Option.some.inj ((show Tryd.prog.funcNamed "tapestry/tapestrylaw07.NormUnlike" = some 3 by kernel_rfl).symm.trans hf) |>.symm
      obtain rfl : fn = Tryd.f3 := (Option.some.inj (Tryd.func3.symm.trans hfn)).symm
      exact ⟨by kernel_rfl, fun j t ht => by
        have hm : t ∈ [22] := by
          have := Array.mem_of_getElem? ht
          simpa [Tryd.params3] using this
        have hall : ([22].all fun u => !Tryd.prog.wantsStandIn u) = true := by kernel_rfl
        exact (show Tryd.prog.wantsStandIn t = false by simpa using List.all_eq_true.1 hall t hm)⟩)
    (by kernel_rfl)
#print axioms normUnlike_holds
end Go.Proofs.YtjoinlfkebgfkaaDoor
