/- Whatever is handed in, tapestry/tapestrylaw01.ValueEqual answers true, and what it read reads behind the call as it read before: the row valueEqualRow, with no condition ahead of it. Road: an interpreter over the loaded code, sound once for all programs; functions on plain data that it is shown to compute; a plain law of these. -/
import Derived.Test.YtdmpjlpkmokllaaDoorVEL1
import Derived.Test.YtdmpjlpkmokllaaDoorVEK
import Derived.Test.YtdmpjlpkmokllaaDoorVES
import Derived.ProofKit
import Derived.LaidMore
import Derived.Stop.Joined
import Derived.LaidSub
import Derived.Test.YtdmpjlpkmokllaaDoorTie
import Derived.Test.YtdmpjlpkmokllaaDoorCards
import Derived.SevenTiedAt
namespace Go.Proofs.YtdmpjlpkmokllaaDoor
open Go Go.X Go.ChangeShapes Go.WideShapes Go.ChangeAt Go.RowKit
set_option maxRecDepth 100000
theorem sys_ok : SysOK Tryd.prog S where
  tab := tab_is_ok
  mixed := by kernel_rfl
  fn := fnOf_spec (by
    intro p hp
    simp only [List.mem_cons, List.not_mem_nil, or_false] at hp
    rcases hp with rfl | rfl | rfl | rfl | rfl | rfl | rfl | rfl | rfl | rfl | rfl | rfl | rfl | rfl | rfl | rfl | rfl | rfl | rfl | rfl | rfl | rfl | rfl | rfl | rfl | rfl | rfl | rfl | rfl
    · exact ⟨Tryd.func6, by kernel_rfl⟩
    · exact ⟨Tryd.func13, by kernel_rfl⟩
    · exact ⟨Tryd.func14, by kernel_rfl⟩
    · exact ⟨Tryd.func15, by kernel_rfl⟩
    · exact ⟨Tryd.func17, by kernel_rfl⟩
    · exact ⟨Tryd.func21, by kernel_rfl⟩
    · exact ⟨Tryd.func22, by kernel_rfl⟩
    · exact ⟨Tryd.func27, by kernel_rfl⟩
    · exact ⟨Tryd.func32, by kernel_rfl⟩
    · exact ⟨Tryd.func33, by kernel_rfl⟩
    · exact ⟨Tryd.func34, by kernel_rfl⟩
    · exact ⟨Tryd.func35, by kernel_rfl⟩
    · exact ⟨Tryd.func38, by kernel_rfl⟩
    · exact ⟨Tryd.func39, by kernel_rfl⟩
    · exact ⟨Tryd.func42, by kernel_rfl⟩
    · exact ⟨Tryd.func43, by kernel_rfl⟩
    · exact ⟨Tryd.func49, by kernel_rfl⟩
    · exact ⟨Tryd.func50, by kernel_rfl⟩
    · exact ⟨Tryd.func51, by kernel_rfl⟩
    · exact ⟨Tryd.func52, by kernel_rfl⟩
    · exact ⟨Tryd.func53, by kernel_rfl⟩
    · exact ⟨Tryd.func54, by kernel_rfl⟩
    · exact ⟨Tryd.func62, by kernel_rfl⟩
    · exact ⟨Tryd.func63, by kernel_rfl⟩
    · exact ⟨Tryd.func64, by kernel_rfl⟩
    · exact ⟨Tryd.func84, by kernel_rfl⟩
    · exact ⟨Tryd.func85, by kernel_rfl⟩
    · exact ⟨Tryd.func86, by kernel_rfl⟩
    · exact ⟨Tryd.func87, by kernel_rfl⟩)
  sites := sites_spec (fun _ => rfl) (by
    intro p hp
    simp only [List.mem_cons, List.not_mem_nil, or_false] at hp
    rcases hp with rfl | rfl | rfl | rfl | rfl | rfl | rfl | rfl | rfl | rfl | rfl | rfl | rfl | rfl | rfl | rfl | rfl | rfl | rfl | rfl | rfl | rfl | rfl | rfl | rfl | rfl | rfl | rfl | rfl
    · exact .inl (by kernel_rfl)
    · exact .inl (by kernel_rfl)
    · exact .inl (by kernel_rfl)
    · exact .inl (by kernel_rfl)
    · exact .inl (by kernel_rfl)
    · exact .inl (by kernel_rfl)
    · exact .inl (by kernel_rfl)
    · exact .inl (by kernel_rfl)
    · exact .inl (by kernel_rfl)
    · exact .inl (by kernel_rfl)
    · exact .inl (by kernel_rfl)
    · exact .inl (by kernel_rfl)
    · exact .inl (by kernel_rfl)
    · exact .inl (by kernel_rfl)
    · exact .inl (by kernel_rfl)
    · exact .inl (by kernel_rfl)
    · exact .inl (by kernel_rfl)
    · exact .inl (by kernel_rfl)
    · exact .inl (by kernel_rfl)
    · exact .inl (by kernel_rfl)
    · exact .inl (by kernel_rfl)
    · exact .inl (by kernel_rfl)
    · exact .inl (by kernel_rfl)
    · exact .inl (by kernel_rfl)
    · exact .inl (by kernel_rfl)
    · exact .inl (by kernel_rfl)
    · exact .inl (by kernel_rfl)
    · exact .inl (by kernel_rfl)
    · exact .inl (by kernel_rfl))
  site := fun g q h => site_spec (F := siteF) (L := siteL) (by
    intro p hp
    cases hp) g q h
  foreign := pickOf_spec (by
    intro p hp
    simp only [List.mem_cons, List.not_mem_nil, or_false] at hp
    rcases hp with rfl
    · exact closed_foreign sys0_ok XFL_ok XSL_ok rfl closed12)
theorem Tryd.own : ownKnob Tryd.prog.godebug = none := by kernel_rfl
theorem Tryd.laidOut : laidOutB Tryd.prog = true := by kernel_rfl
theorem door_met (os : Os) (args : Array Go.Value) : laidMetH Tryd.prog Rows.valueEqualRow.laid ((World.doorLaid Tryd.prog 400 os).forCall (fun _ _ => 0) ⟨#[], args, []⟩).memory :=
  laidMetH_of_parts3 (fuel := 8) (laidMet_of_run' 8 (by kernel_rfl) (by kernel_rfl)) (by kernel_rfl) (by kernel_rfl)
theorem glob_met {W : World} (h : laidMetH Tryd.prog Rows.valueEqualRow.laid W) : GlobOK [] W := by
  have h1 := (laidMetH_iff.1 h).1.filter (fun x => x.1 == "internal/strconv.uint64pow10")
  rw [show List.filter (fun x => x.1 == "internal/strconv.uint64pow10") (List.filter (fun x => x.2.handleName?.isNone) Rows.valueEqualRow.laid) = [("internal/strconv.uint64pow10", Lib.tabData .u64 Lib.pow10Tab)] by kernel_rfl] at h1
  exact glob_laid (g := 0) (by kernel_rfl) (Lib.tabIs_of_head (g := 0) (t := 128) (n := 20) (e := 118) (by kernel_rfl) (by kernel_rfl) (by kernel_rfl) (by kernel_rfl) (by kernel_rfl) (by kernel_rfl) h1) (fun q hq => List.mem_singleton.1 hq)
theorem valueEqual_lifted (os : Os) (started : os.Started) (H : Type) (enc : TypeId × Go.Value → H) :
    ReturnsInHanded {} Tryd.checked os 6 .any (fun w args => (Rows.valueEqualSpec.pre enc Tryd.prog Tryd.f6 [] false w args ∧ laidMetH Tryd.prog Rows.valueEqualRow.laid w) ∧ sizedMet enc Tryd.prog Tryd.f6 (OpenSpec.ofChange Rows.valueEqualSpec) false w args)
      (Rows.valueEqualSpec.post enc Tryd.prog Tryd.f6 false true false false) := by
  refine returnsInHanded_of_change_and (C := Tryd.checked) (X := fun w _ => laidMetH Tryd.prog Rows.valueEqualRow.laid w) (fun _ _ _ hh h => h.of_heap hh) Tryd.own started (by kernel_rfl) Tryd.func6
    (ChangeSpec.witness_shaped (enc := enc) (C := Tryd.checked) (os := os) (X := fun w _ => laidMetH Tryd.prog Rows.valueEqualRow.laid w) false (World.doorLaid Tryd.prog 400 os) #[.agg #[.int .u8 0, .int .i64 0, .string ByteArray.empty, .slice none 0 0, .slice none 0 0, .int .u8 0, .string ByteArray.empty, .bool false], .agg #[.int .u8 0, .int .i64 0, .string ByteArray.empty, .slice none 0 0, .slice none 0 0, .int .u8 0, .string ByteArray.empty, .bool false], .agg #[.int .u8 0, .int .i64 0, .string ByteArray.empty, .slice none 0 0, .slice none 0 0, .int .u8 0, .string ByteArray.empty, .bool false]] 8 rfl (World.shaped_of_RefB (by kernel_rfl) (by kernel_rfl)) (by kernel_rfl) (by kernel_rfl) (by kernel_rfl) (door_met os _)) ?_
  intro W base args dd gs before hval hW _ hz hlaid _
  exact law_post sys_ok (L := [27, 22, 2, 9, 23, 24, 36, 25, 4]) (by kernel_rfl) Tryd.laidOut (f := 6) (fn := Tryd.f6) (ts := [27, 27, 27]) rfl (by decide) (by
      intro t ht
      simp only [List.mem_cons, List.not_mem_nil, or_false, or_self] at ht
      subst ht; exact ⟨by kernel_rfl, of_decide_eq_true (by kernel_rfl)⟩) (rt := 4) rfl (by kernel_rfl) (s := Rows.valueEqualSpec) rfl hval hW hz
    (fun d hd => by
      match d, hd with
      | [_, _, _], _ => exact ⟨rfl, rfl, rfl⟩) (glob_met hlaid) (by kernel_rfl) law6
theorem valueEqual_row : Rows.ValueEqualSaid :=
  OpenClaim.holds_of_wide 6 Tryd.f6 rfl rfl rfl rfl rfl rfl rfl ⟨rfl, rfl, rfl, rfl, rfl⟩ rfl rfl rfl rfl rfl (by kernel_rfl) Tryd.func6 (by kernel_rfl)
    (of_decide_eq_true (by kernel_rfl)) (by unfold Func.isWrapper; first | (rw [if_pos (by decide +kernel)]; kernel_rfl) | (rw [if_neg (by decide +kernel)]; exact ⟨rfl, rfl⟩))
    (fun os started H enc _ => valueEqual_lifted os started H enc)
/-- The card: the row, with what it lists tied to the program's text. -/
theorem valueEqual_holds : Rows.ValueEqualCardSaid :=
  Claim7.holds_tied_plain_at .later [] Rows.valueEqualCard.laidKinds true Rows.valueEqualCard.stood.harness false
    valueEqual_row (fun _ h => by cases h) (by kernel_rfl) (fun _ h => by cases h) valueEqual_row_tie rfl ⟨rfl, rfl⟩ (by kernel_rfl) rfl
    (fun f fn hf hfn => by
      obtain rfl : f = 6 := Option.some.inj ((show Tryd.prog.funcNamed "tapestry/tapestrylaw01.ValueEqual" = some 6 by kernel_rfl).symm.trans hf) |>.symm
      obtain rfl : fn = Tryd.f6 := (Option.some.inj (Tryd.func6.symm.trans hfn)).symm
      exact ⟨by kernel_rfl, fun j t ht => by
        have hm : t ∈ [27, 27, 27] := by
          have := Array.mem_of_getElem? ht
          simpa [Tryd.params6] using this
        have hall : ([27, 27, 27].all fun u => !Tryd.prog.wantsStandIn u) = true := by kernel_rfl
        exact (show Tryd.prog.wantsStandIn t = false by simpa using List.all_eq_true.1 hall t hm)⟩)
    (by kernel_rfl)
#print axioms valueEqual_holds
end Go.Proofs.YtdmpjlpkmokllaaDoor
