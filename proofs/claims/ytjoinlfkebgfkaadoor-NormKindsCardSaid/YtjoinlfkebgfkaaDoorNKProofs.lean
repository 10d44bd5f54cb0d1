/- Whatever is handed in, tapestry/tapestrylaw07.NormKinds answers true, and what it read reads behind the call as it read before: the row normKindsRow, with no condition ahead of it. Road: an interpreter over the loaded code, sound once for all programs; functions on plain data that it is shown to compute; a plain law of these. -/
import Derived.Test.YtjoinlfkebgfkaaDoorNKL0
import Derived.Test.YtjoinlfkebgfkaaDoorNKK
import Derived.ProofKit
import Derived.LaidMore
import Derived.Stop.Joined
import Derived.Test.YtjoinlfkebgfkaaDoorTie
import Derived.Test.YtjoinlfkebgfkaaDoorCards
import Derived.SevenTiedAt
namespace Go.Proofs.YtjoinlfkebgfkaaDoor
open Go Go.X Go.ChangeShapes Go.WideShapes Go.ChangeAt Go.RowKit
set_option maxRecDepth 100000
theorem sys_ok : SysOK Tryd.prog S where
  tab := tab_is_ok
  mixed := by kernel_rfl
  fn := fnOf_spec (by
    intro p hp
    simp only [List.mem_cons, List.not_mem_nil, or_false] at hp
    rcases hp with rfl | rfl
    · exact ⟨Tryd.func5, by kernel_rfl⟩
    · exact ⟨Tryd.func11, by kernel_rfl⟩)
  sites := sites_spec (fun _ => rfl) (by
    intro p hp
    simp only [List.mem_cons, List.not_mem_nil, or_false] at hp
    rcases hp with rfl | rfl
    · exact .inl (by kernel_rfl)
    · exact .inl (by kernel_rfl))
  site := fun g q h => site_spec (F := siteF) (L := siteL) (by
    intro p hp
    simp only [siteL, List.mem_cons, List.not_mem_nil, or_false] at hp
    first
    | exact hp.elim
    | (subst hp; exact ⟨by kernel_rfl, by kernel_rfl, by kernel_rfl⟩)
    | (rcases hp with rfl | rfl <;> exact ⟨by kernel_rfl, by kernel_rfl, by kernel_rfl⟩)) g q h
  foreign := pickOf_spec (by
    intro p hp
    simp only [List.mem_cons, List.not_mem_nil, or_false] at hp
    rcases hp with rfl
    · exact closed_foreign sys0_ok XFL_ok XSL_ok rfl closed6)
theorem Tryd.own : ownKnob Tryd.prog.godebug = none := by kernel_rfl
theorem Tryd.laidOut : laidOutB Tryd.prog = true := by kernel_rfl
theorem door_met (os : Os) (args : Array Go.Value) : laidMetH Tryd.prog Rows.normKindsRow.laid ((World.doorLaid Tryd.prog 400 os).forCall (fun _ _ => 0) ⟨#[], args, []⟩).memory :=
  laidMetH_of_parts3 (fuel := 8) (laidMet_of_run' 8 (by kernel_rfl) (by kernel_rfl)) (by kernel_rfl) (by kernel_rfl)
theorem normKinds_lifted (os : Os) (started : os.Started) (H : Type) (enc : TypeId × Go.Value → H) :
    ReturnsInHanded {} Tryd.checked os 5 .any (fun w args => (Rows.normKindsSpec.pre enc Tryd.prog Tryd.f5 [] false w args ∧ laidMetH Tryd.prog Rows.normKindsRow.laid w) ∧ sizedMet enc Tryd.prog Tryd.f5 (OpenSpec.ofChange Rows.normKindsSpec) false w args)
      (Rows.normKindsSpec.post enc Tryd.prog Tryd.f5 false true false false) := by
  refine returnsInHanded_of_change_and (C := Tryd.checked) (X := fun w _ => laidMetH Tryd.prog Rows.normKindsRow.laid w) (fun _ _ _ hh h => h.of_heap hh) Tryd.own started (by kernel_rfl) Tryd.func5
    (ChangeSpec.witness_shaped (enc := enc) (C := Tryd.checked) (os := os) (X := fun w _ => laidMetH Tryd.prog Rows.normKindsRow.laid w) false (World.doorLaid Tryd.prog 400 os) #[.agg #[.string ByteArray.empty, .int .u8 0, .string ByteArray.empty, .int .u8 0, .int .i64 0, .string ByteArray.empty, .slice none 0 0, .slice none 0 0, .int .u8 0, .string ByteArray.empty, .bool false], .agg #[.string ByteArray.empty, .int .u8 0, .string ByteArray.empty, .int .u8 0, .int .i64 0, .string ByteArray.empty, .slice none 0 0, .slice none 0 0, .int .u8 0, .string ByteArray.empty, .bool false], .agg #[.string ByteArray.empty, .int .u8 0, .string ByteArray.empty, .int .u8 0, .int .i64 0, .string ByteArray.empty, .slice none 0 0, .slice none 0 0, .int .u8 0, .string ByteArray.empty, .bool false]] 8 rfl (World.shaped_of_RefB (by kernel_rfl) (by kernel_rfl)) (by kernel_rfl) (by kernel_rfl) (by kernel_rfl) (door_met os _)) ?_
  intro W base args dd gs before hval hW _ hz _ _
  exact law_post sys_ok (L := [34, 9, 28, 32, 29, 2, 22, 30, 57, 4]) (by kernel_rfl) Tryd.laidOut (f := 5) (fn := Tryd.f5) (ts := [34, 34, 34]) rfl (by decide) (by
      intro t ht
      simp only [List.mem_cons, List.not_mem_nil, or_false, or_self] at ht
      subst ht; exact ⟨by kernel_rfl, of_decide_eq_true (by kernel_rfl)⟩) (rt := 4) rfl (by kernel_rfl) (s := Rows.normKindsSpec) rfl hval hW hz
    (fun d hd => by
      match d, hd with
      | [_, _, _], _ => exact ⟨rfl, rfl, rfl⟩) (by kernel_rfl) law5
theorem normKinds_row : Rows.NormKindsSaid :=
  OpenClaim.holds_of_wide 5 Tryd.f5 rfl rfl rfl rfl rfl rfl rfl ⟨rfl, rfl, rfl, rfl, rfl⟩ rfl rfl rfl rfl rfl (by kernel_rfl) Tryd.func5 (by kernel_rfl)
    (of_decide_eq_true (by kernel_rfl)) (by unfold Func.isWrapper; first | (rw [if_pos (by decide +kernel)]; kernel_rfl) | (rw [if_neg (by decide +kernel)]; exact ⟨rfl, rfl⟩))
    (fun os started H enc _ => normKinds_lifted os started H enc)
/-- The card: the row, with what it lists tied to the program's text. -/
theorem normKinds_holds : Rows.NormKindsCardSaid :=
  Claim7.holds_tied_plain_at .later [] Rows.normKindsCard.laidKinds true Rows.normKindsCard.stood.harness false
    normKinds_row (fun _ h => by cases h) (by kernel_rfl) (fun _ h => by cases h) normKinds_row_tie rfl ⟨rfl, rfl⟩ (by kernel_rfl) rfl
    (fun f fn hf hfn => by
      obtain rfl : f = 5 := Option.some.inj ((show Tryd.prog.funcNamed "tapestry/tapestrylaw07.NormKinds" = some 5 by kernel_rfl).symm.trans hf) |>.symm
      obtain rfl : fn = Tryd.f5 := (Option.some.inj (Tryd.func5.symm.trans hfn)).symm
      exact ⟨by kernel_rfl, fun j t ht => by
        have hm : t ∈ [34, 34, 34] := by
          have := Array.mem_of_getElem? ht
          simpa [Tryd.params5] using this
        have hall : ([34, 34, 34].all fun u => !Tryd.prog.wantsStandIn u) = true := by kernel_rfl
        exact (show Tryd.prog.wantsStandIn t = false by simpa using List.all_eq_true.1 hall t hm)⟩)
    (by kernel_rfl)
#print axioms normKinds_holds
end Go.Proofs.YtjoinlfkebgfkaaDoor
