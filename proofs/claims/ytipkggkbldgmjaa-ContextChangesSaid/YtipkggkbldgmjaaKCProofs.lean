/- Whatever is handed in, tapestry/tapestrylaw14.ContextChanges answers true, and what it read reads behind the call as it read before: the row contextChangesRow, with no condition ahead of it. Road: an interpreter over the loaded code, sound once for all programs; functions on plain data that it is shown to compute; a plain law of these. -/
import Derived.Test.YtipkggkbldgmjaaKCL6
import Derived.Test.YtipkggkbldgmjaaKCK
import Derived.ProofKit
namespace Go.Proofs.Ytipkggkbldgmjaa
open Go Go.X Go.ChangeShapes Go.WideShapes Go.ChangeAt Go.RowKit
set_option maxRecDepth 100000
theorem sys_ok : SysOK Try.prog S where
  tab := tab_is_ok
  mixed := by kernel_rfl
  fn := fnOf_spec (by
    intro p hp
    simp only [List.mem_cons, List.not_mem_nil, or_false] at hp
    rcases hp with rfl | rfl | rfl | rfl | rfl | rfl | rfl | rfl | rfl | rfl | rfl | rfl | rfl | rfl | rfl | rfl | rfl | rfl | rfl | rfl | rfl | rfl | rfl | rfl | rfl | rfl
    · exact ⟨Try.func4, by kernel_rfl⟩
    · exact ⟨Try.func9, by kernel_rfl⟩
    · exact ⟨Try.func11, by kernel_rfl⟩
    · exact ⟨Try.func12, by kernel_rfl⟩
    · exact ⟨Try.func24, by kernel_rfl⟩
    · exact ⟨Try.func26, by kernel_rfl⟩
    · exact ⟨Try.func29, by kernel_rfl⟩
    · exact ⟨Try.func30, by kernel_rfl⟩
    · exact ⟨Try.func31, by kernel_rfl⟩
    · exact ⟨Try.func32, by kernel_rfl⟩
    · exact ⟨Try.func33, by kernel_rfl⟩
    · exact ⟨Try.func34, by kernel_rfl⟩
    · exact ⟨Try.func36, by kernel_rfl⟩
    · exact ⟨Try.func48, by kernel_rfl⟩
    · exact ⟨Try.func49, by kernel_rfl⟩
    · exact ⟨Try.func50, by kernel_rfl⟩
    · exact ⟨Try.func52, by kernel_rfl⟩
    · exact ⟨Try.func53, by kernel_rfl⟩
    · exact ⟨Try.func54, by kernel_rfl⟩
    · exact ⟨Try.func55, by kernel_rfl⟩
    · exact ⟨Try.func56, by kernel_rfl⟩
    · exact ⟨Try.func69, by kernel_rfl⟩
    · exact ⟨Try.func70, by kernel_rfl⟩
    · exact ⟨Try.func71, by kernel_rfl⟩
    · exact ⟨Try.func72, by kernel_rfl⟩
    · exact ⟨Try.func73, by kernel_rfl⟩)
  sites := sites_spec (fun _ => rfl) (by
    intro p hp
    simp only [List.mem_cons, List.not_mem_nil, or_false] at hp
    rcases hp with rfl | rfl | rfl | rfl | rfl | rfl | rfl | rfl | rfl | rfl | rfl | rfl | rfl | rfl | rfl | rfl | rfl | rfl | rfl | rfl | rfl | rfl | rfl | rfl | rfl | rfl
    · exact .inl (by kernel_rfl)
    · exact .inr ⟨by kernel_rfl, by kernel_rfl⟩
    · exact .inl (by kernel_rfl)
    · exact .inl (by kernel_rfl)
    · exact .inl (by kernel_rfl)
    · exact .inl (by kernel_rfl)
    · exact .inl (by kernel_rfl)
    · exact .inl (by kernel_rfl)
    · exact .inl (by kernel_rfl)
    · exact .inl (by kernel_rfl)
    · exact .inl (by kernel_rfl)
    · exact .inl (by kernel_rfl)
    · exact .inl (by kernel_rfl)
    · exact .inl (by kernel_rfl)
    · exact .inl (by kernel_rfl)
    · exact .inl (by kernel_rfl)
    · exact .inr ⟨by kernel_rfl, by kernel_rfl⟩
    · exact .inl (by kernel_rfl)
    · exact .inl (by kernel_rfl)
    · exact .inl (by kernel_rfl)
    · exact .inl (by kernel_rfl)
    · exact .inl (by kernel_rfl)
    · exact .inl (by kernel_rfl)
    · exact .inl (by kernel_rfl)
    · exact .inl (by kernel_rfl)
    · exact .inl (by kernel_rfl))
  site := fun g q h => site_spec (F := siteF) (L := siteL) (by
    intro p hp
    simp only [siteL, List.mem_cons, List.not_mem_nil, or_false] at hp
    first
    | exact hp.elim
    | (subst hp; exact ⟨by kernel_rfl, by kernel_rfl, by kernel_rfl⟩)
    | (rcases hp with rfl | rfl <;> exact ⟨by kernel_rfl, by kernel_rfl, by kernel_rfl⟩)) g q h
  foreign := pickOf_spec (by
    intro p hp
    simp only [List.mem_cons, List.not_mem_nil, or_false] at hp
    rcases hp with rfl
    · exact closed_foreign sys0_ok XFL_ok XSL_ok rfl closed10)
theorem Try.own : ownKnob Try.prog.godebug = none := by kernel_rfl
theorem Try.laidOut : laidOutB Try.prog = true := by kernel_rfl
theorem contextChanges_lifted (os : Os) (started : os.Started) (H : Type) (enc : TypeId × Go.Value → H) :
    ReturnsInHanded {} Try.checked os 4 .any (Rows.contextChangesSpec.pre6 enc Try.prog Try.f4 Rows.contextChangesRow.domain false) (Rows.contextChangesSpec.post enc Try.prog Try.f4 false true false false) := by
  refine returns_sized (C := Try.checked) Try.own started (by kernel_rfl) Try.func4
    (ChangeSpec.witness6 (enc := enc) (C := Try.checked) false ⟨#[], #[.slice none 0 0, .slice none 0 0], []⟩ 8 (by kernel_rfl) (by kernel_rfl) (by kernel_rfl) (by kernel_rfl)) ?_
  intro W base args dd gs before hval hW hz
  exact law_post sys_ok (L := [33, 61, 58, 9, 27, 23, 2, 24, 22, 49, 25, 4, 59, 105, 99, 103, 100, 101, 93]) (by kernel_rfl) Try.laidOut (f := 4) (fn := Try.f4) (ts := [33, 22]) rfl (by decide) (by
      intro t ht
      simp only [List.mem_cons, List.not_mem_nil, or_false, or_self] at ht
      rcases ht with rfl | rfl <;> exact ⟨by kernel_rfl, of_decide_eq_true (by kernel_rfl)⟩) (rt := 4) rfl (by kernel_rfl) (s := Rows.contextChangesSpec) rfl hval hW hz
    (fun d hd => by
      match d, hd with
      | [_, _], _ => exact ⟨rfl, rfl, rfl⟩) (by kernel_rfl) law4
theorem contextChanges_holds : Rows.ContextChangesSaid :=
  OpenClaim.holds_of_wide 4 Try.f4 rfl rfl rfl rfl rfl rfl rfl ⟨rfl, rfl, rfl, rfl, rfl⟩ rfl rfl rfl rfl rfl (by kernel_rfl) Try.func4 (by kernel_rfl)
    (of_decide_eq_true (by kernel_rfl)) (by unfold Func.isWrapper; first | (rw [if_pos (by decide +kernel)]; kernel_rfl) | (rw [if_neg (by decide +kernel)]; exact ⟨rfl, rfl⟩))
    (fun os started H enc _ => contextChanges_lifted os started H enc)
#print axioms contextChanges_holds
end Go.Proofs.Ytipkggkbldgmjaa
