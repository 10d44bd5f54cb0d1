/- Calls without arguments, worked out. -/
import Derived.Test.YtjoinlfkebgfkaaDoorNKC
import Derived.Test.YtjoinlfkebgfkaaDoorXEval
import Derived.ProofKit
namespace Go.Proofs.YtjoinlfkebgfkaaDoor
open Go Go.X
set_option linter.unusedVariables false
set_option linter.unusedSimpArgs false
set_option maxRecDepth 100000
noncomputable def S0 : X.Sys := { fn := fnOf [(6, Tryd.f6), (9, Tryd.f9), (11, Tryd.f11), (12, Tryd.f12), (14, Tryd.f14), (15, Tryd.f15), (16, Tryd.f16), (17, Tryd.f17), (18, Tryd.f18), (21, Tryd.f21), (22, Tryd.f22), (23, Tryd.f23), (24, Tryd.f24), (25, Tryd.f25), (26, Tryd.f26), (29, Tryd.f29), (33, Tryd.f33), (34, Tryd.f34), (35, Tryd.f35), (43, Tryd.f43), (44, Tryd.f44)], tab := tab, foreign := fun _ => none }
theorem sys0_ok : SysOK Tryd.prog S0 where
  tab := tab_is_ok
  mixed := by kernel_rfl
  fn := fnOf_spec (by
    intro p hp
    simp only [List.mem_cons, List.not_mem_nil, or_false] at hp
    rcases hp with rfl | rfl | rfl | rfl | rfl | rfl | rfl | rfl | rfl | rfl | rfl | rfl | rfl | rfl | rfl | rfl | rfl | rfl | rfl | rfl | rfl
    · exact ⟨Tryd.func6, by kernel_rfl⟩
    · exact ⟨Tryd.func9, by kernel_rfl⟩
    · exact ⟨Tryd.func11, by kernel_rfl⟩
    · exact ⟨Tryd.func12, by kernel_rfl⟩
    · exact ⟨Tryd.func14, by kernel_rfl⟩
    · exact ⟨Tryd.func15, by kernel_rfl⟩
    · exact ⟨Tryd.func16, by kernel_rfl⟩
    · exact ⟨Tryd.func17, by kernel_rfl⟩
    · exact ⟨Tryd.func18, by kernel_rfl⟩
    · exact ⟨Tryd.func21, by kernel_rfl⟩
    · exact ⟨Tryd.func22, by kernel_rfl⟩
    · exact ⟨Tryd.func23, by kernel_rfl⟩
    · exact ⟨Tryd.func24, by kernel_rfl⟩
    · exact ⟨Tryd.func25, by kernel_rfl⟩
    · exact ⟨Tryd.func26, by kernel_rfl⟩
    · exact ⟨Tryd.func29, by kernel_rfl⟩
    · exact ⟨Tryd.func33, by kernel_rfl⟩
    · exact ⟨Tryd.func34, by kernel_rfl⟩
    · exact ⟨Tryd.func35, by kernel_rfl⟩
    · exact ⟨Tryd.func43, by kernel_rfl⟩
    · exact ⟨Tryd.func44, by kernel_rfl⟩)
  sites := sites_spec (fun _ => rfl) (by
    intro p hp
    simp only [List.mem_cons, List.not_mem_nil, or_false] at hp
    rcases hp with rfl | rfl | rfl | rfl | rfl | rfl | rfl | rfl | rfl | rfl | rfl | rfl | rfl | rfl | rfl | rfl | rfl | rfl | rfl | rfl | rfl
    · exact .inl (by kernel_rfl)
    · exact .inr ⟨by kernel_rfl, by kernel_rfl⟩
    · exact .inl (by kernel_rfl)
    · exact .inl (by kernel_rfl)
    · exact .inl (by kernel_rfl)
    · exact .inl (by kernel_rfl)
    · exact .inl (by kernel_rfl)
    · exact .inl (by kernel_rfl)
    · exact .inl (by kernel_rfl)
    · exact .inl (by kernel_rfl)
    · exact .inl (by kernel_rfl)
    · exact .inl (by kernel_rfl)
    · exact .inl (by kernel_rfl)
    · exact .inl (by kernel_rfl)
    · exact .inl (by kernel_rfl)
    · exact .inl (by kernel_rfl)
    · exact .inl (by kernel_rfl)
    · exact .inl (by kernel_rfl)
    · exact .inl (by kernel_rfl)
    · exact .inl (by kernel_rfl)
    · exact .inl (by kernel_rfl))
  site := fun g q h => site_spec (F := siteF) (L := siteL) (by
    intro p hp
    simp only [siteL, List.mem_cons, List.not_mem_nil, or_false] at hp
    first
    | exact hp.elim
    | (subst hp; exact ⟨by kernel_rfl, by kernel_rfl, by kernel_rfl⟩)
    | (rcases hp with rfl | rfl <;> exact ⟨by kernel_rfl, by kernel_rfl, by kernel_rfl⟩)) g q h
  foreign := fun f g h => by cases h
noncomputable def XFL : List (Nat × (XC × List ResultVar)) := [(6, (c6, [.tmp 0])), (9, (c9, [.cell 2 26])), (11, (c11, [.tmp 4])), (12, (c12, [.cell 4 32])), (14, (c14, [.tmp 2])), (15, (c15, [.cell 2 34])), (16, (c16, [.tmp 4])), (17, (c17, [.cell 2 32])), (18, (c18, [.tmp 2])), (21, (c21, [])), (22, (c22, [.tmp 5])), (23, (c23, [.tmp 4])), (24, (c24, [.tmp 2])), (25, (c25, [.tmp 2])), (26, (c26, [.tmp 2])), (29, (c29, [.tmp 2])), (33, (c33, [.tmp 4])), (34, (c34, [.tmp 4])), (35, (c35, [.cell 2 57])), (43, (c43, [.tmp 2])), (44, (c44, [.tmp 2]))]
theorem XFL_ok : XFok S0 (pickOf XFL) := xf_ok (by
    intro p hp
    simp only [XFL, List.mem_cons, List.not_mem_nil, or_false] at hp
    rcases hp with rfl | rfl | rfl | rfl | rfl | rfl | rfl | rfl | rfl | rfl | rfl | rfl | rfl | rfl | rfl | rfl | rfl | rfl | rfl | rfl | rfl
    · exact ⟨Tryd.f6, by kernel_rfl, c6_ok, by kernel_rfl⟩
    · exact ⟨Tryd.f9, by kernel_rfl, c9_ok, by kernel_rfl⟩
    · exact ⟨Tryd.f11, by kernel_rfl, c11_ok, by kernel_rfl⟩
    · exact ⟨Tryd.f12, by kernel_rfl, c12_ok, by kernel_rfl⟩
    · exact ⟨Tryd.f14, by kernel_rfl, c14_ok, by kernel_rfl⟩
    · exact ⟨Tryd.f15, by kernel_rfl, c15_ok, by kernel_rfl⟩
    · exact ⟨Tryd.f16, by kernel_rfl, c16_ok, by kernel_rfl⟩
    · exact ⟨Tryd.f17, by kernel_rfl, c17_ok, by kernel_rfl⟩
    · exact ⟨Tryd.f18, by kernel_rfl, c18_ok, by kernel_rfl⟩
    · exact ⟨Tryd.f21, by kernel_rfl, c21_ok, by kernel_rfl⟩
    · exact ⟨Tryd.f22, by kernel_rfl, c22_ok, by kernel_rfl⟩
    · exact ⟨Tryd.f23, by kernel_rfl, c23_ok, by kernel_rfl⟩
    · exact ⟨Tryd.f24, by kernel_rfl, c24_ok, by kernel_rfl⟩
    · exact ⟨Tryd.f25, by kernel_rfl, c25_ok, by kernel_rfl⟩
    · exact ⟨Tryd.f26, by kernel_rfl, c26_ok, by kernel_rfl⟩
    · exact ⟨Tryd.f29, by kernel_rfl, c29_ok, by kernel_rfl⟩
    · exact ⟨Tryd.f33, by kernel_rfl, c33_ok, by kernel_rfl⟩
    · exact ⟨Tryd.f34, by kernel_rfl, c34_ok, by kernel_rfl⟩
    · exact ⟨Tryd.f35, by kernel_rfl, c35_ok, by kernel_rfl⟩
    · exact ⟨Tryd.f43, by kernel_rfl, c43_ok, by kernel_rfl⟩
    · exact ⟨Tryd.f44, by kernel_rfl, c44_ok, by kernel_rfl⟩)
noncomputable def XSL : List (Nat × (Nat × List Nat × XC × XC)) := [(100900, (9, [10, 11], cs100900a, cs100900b))]
theorem XSL_ok : XSok S0 (pickOf XSL) := xs_ok (by
    intro p hp
    simp only [XSL, List.mem_cons, List.not_mem_nil, or_false] at hp
    subst hp; exact ⟨cs100900_ok, by kernel_rfl⟩)
theorem closed6 : callN S0 (pickOf XFL) (pickOf XSL) 5000 100 6 [] [] = some (.d (.bool true), []) := by kernel_rfl
end Go.Proofs.YtjoinlfkebgfkaaDoor
