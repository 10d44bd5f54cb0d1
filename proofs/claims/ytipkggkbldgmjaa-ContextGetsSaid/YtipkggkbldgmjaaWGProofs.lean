/- Whatever is handed in, tapestry/tapestrylaw14.ContextGets answers true, and what it read reads behind the call as it read before: the row contextGetsRow, with no condition ahead of it. Road: an interpreter over the loaded code, sound once for all programs; functions on plain data that it is shown to compute; a plain law of these. -/
import Derived.Test.YtipkggkbldgmjaaWGL6
import Derived.Test.YtipkggkbldgmjaaWGK
import Derived.ProofKit
namespace Go.Proofs.Ytipkggkbldgmjaa
open Go Go.X Go.ChangeShapes Go.WideShapes Go.ChangeAt Go.RowKit
set_option maxRecDepth 100000
theorem sys_ok : SysOK Try.prog S where
  tab := tab_is_ok
  mixed := by kernel_rfl
  fn := fnOf_spec (by
    intro p hp
    simp only [List.mem_cons, List.not_mem_nil, or_false] at hp
    rcases hp with rfl | rfl | rfl | rfl | rfl | rfl | rfl | rfl | rfl | rfl | rfl | rfl | rfl | rfl | rfl | rfl | rfl | rfl | rfl | rfl | rfl
    · exact ⟨Try.func3, by kernel_rfl⟩
    · exact ⟨Try.func7, by kernel_rfl⟩
    · exact ⟨Try.func8, by kernel_rfl⟩
    · exact ⟨Try.func9, by kernel_rfl⟩
    · exact ⟨Try.func23, by kernel_rfl⟩
    · exact ⟨Try.func24, by kernel_rfl⟩
    · exact ⟨Try.func25, by kernel_rfl⟩
    · exact ⟨Try.func26, by kernel_rfl⟩
    · exact ⟨Try.func27, by kernel_rfl⟩
    · exact ⟨Try.func28, by kernel_rfl⟩
    · exact ⟨Try.func29, by kernel_rfl⟩
    · exact ⟨Try.func47, by kernel_rfl⟩
    · exact ⟨Try.func48, by kernel_rfl⟩
    · exact ⟨Try.func49, by kernel_rfl⟩
    · exact ⟨Try.func50, by kernel_rfl⟩
    · exact ⟨Try.func51, by kernel_rfl⟩
    · exact ⟨Try.func52, by kernel_rfl⟩
    · exact ⟨Try.func53, by kernel_rfl⟩
    · exact ⟨Try.func69, by kernel_rfl⟩
    · exact ⟨Try.func70, by kernel_rfl⟩
    · exact ⟨Try.func71, by kernel_rfl⟩)
  sites := sites_spec (fun _ => rfl) (by
    intro p hp
    simp only [List.mem_cons, List.not_mem_nil, or_false] at hp
    rcases hp with rfl | rfl | rfl | rfl | rfl | rfl | rfl | rfl | rfl | rfl | rfl | rfl | rfl | rfl | rfl | rfl | rfl | rfl | rfl | rfl | rfl
    · exact .inl (by kernel_rfl)
    · exact .inl (by kernel_rfl)
    · exact .inl (by kernel_rfl)
    · exact .inr ⟨by kernel_rfl, by kernel_rfl⟩
    · exact .inl (by kernel_rfl)
    · exact .inl (by kernel_rfl)
    · exact .inl (by kernel_rfl)
    · exact .inl (by kernel_rfl)
    · exact .inl (by kernel_rfl)
    · exact .inl (by kernel_rfl)
    · exact .inl (by kernel_rfl)
    · exact .inl (by kernel_rfl)
    · exact .inl (by kernel_rfl)
    · exact .inl (by kernel_rfl)
    · exact .inl (by kernel_rfl)
    · exact .inl (by kernel_rfl)
    · exact .inr ⟨by kernel_rfl, by kernel_rfl⟩
    · exact .inl (by kernel_rfl)
    · exact .inl (by kernel_rfl)
    · exact .inl (by kernel_rfl)
    · exact .inl (by kernel_rfl))
  site := fun g q h => site_spec (F := siteF) (L := siteL) (by
    intro p hp
    simp only [siteL, List.mem_cons, List.not_mem_nil, or_false] at hp
    first
    | exact hp.elim
    | (subst hp; exact ⟨by kernel_rfl, by kernel_rfl, by kernel_rfl⟩)
    | (rcases hp with rfl | rfl <;> exact ⟨by kernel_rfl, by kernel_rfl, by kernel_rfl⟩)) g q h
  foreign := pickOf_spec (by
    intro p hp
    simp only [List.mem_cons, List.not_mem_nil, or_false] at hp
    rcases hp with rfl
    · exact closed_foreign sys0_ok XFL_ok XSL_ok rfl closed10)
theorem Try.own : ownKnob Try.prog.godebug = none := by kernel_rfl
theorem Try.laidOut : laidOutB Try.prog = true := by kernel_rfl
theorem contextGets_lifted (os : Os) (started : os.Started) (H : Type) (enc : TypeId × Go.Value → H) :
    ReturnsInHanded {} Try.checked os 3 .any (Rows.contextGetsSpec.pre6 enc Try.prog Try.f3 Rows.contextGetsRow.domain false) (Rows.contextGetsSpec.post enc Try.prog Try.f3 false true false false) := by
  refine returns_sized (C := Try.checked) Try.own started (by kernel_rfl) Try.func3
    (ChangeSpec.witness6 (enc := enc) (C := Try.checked) false ⟨#[], #[.slice none 0 0, .string ByteArray.empty, .string ByteArray.empty], []⟩ 8 (by kernel_rfl) (by kernel_rfl) (by kernel_rfl) (by kernel_rfl)) ?_
  intro W base args dd gs before hval hW hz
  exact law_post sys_ok (L := [22, 49, 9, 27, 23, 2, 24, 25, 4]) (by kernel_rfl) Try.laidOut (f := 3) (fn := Try.f3) (ts := [22, 9, 9]) rfl (by decide) (by
      intro t ht
      simp only [List.mem_cons, List.not_mem_nil, or_false, or_self] at ht
      rcases ht with rfl | rfl <;> exact ⟨by kernel_rfl, of_decide_eq_true (by kernel_rfl)⟩) (rt := 4) rfl (by kernel_rfl) (s := Rows.contextGetsSpec) rfl hval hW hz
    (fun d hd => by
      match d, hd with
      | [_, _, _], _ => exact ⟨rfl, rfl, rfl⟩) (by kernel_rfl) law3
theorem contextGets_holds : Rows.ContextGetsSaid :=
  OpenClaim.holds_of_wide 3 Try.f3 rfl rfl rfl rfl rfl rfl rfl ⟨rfl, rfl, rfl, rfl, rfl⟩ rfl rfl rfl rfl rfl (by kernel_rfl) Try.func3 (by kernel_rfl)
    (of_decide_eq_true (by kernel_rfl)) (by unfold Func.isWrapper; first | (rw [if_pos (by decide +kernel)]; kernel_rfl) | (rw [if_neg (by decide +kernel)]; exact ⟨rfl, rfl⟩))
    (fun os started H enc _ => contextGets_lifted os started H enc)
#print axioms contextGets_holds
end Go.Proofs.Ytipkggkbldgmjaa
