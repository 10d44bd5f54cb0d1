/- Calls without arguments, worked out. -/
import Derived.Test.YtipkggkbldgmjaaKQC
import Derived.Test.YtipkggkbldgmjaaXEval
import Derived.ProofKit
namespace Go.Proofs.Ytipkggkbldgmjaa
open Go Go.X
set_option linter.unusedVariables false
set_option linter.unusedSimpArgs false
set_option maxRecDepth 100000
noncomputable def S0 : X.Sys := { fn := fnOf [(17, Try.f17), (18, Try.f18), (20, Try.f20), (21, Try.f21), (22, Try.f22), (24, Try.f24), (26, Try.f26), (32, Try.f32), (36, Try.f36), (38, Try.f38), (39, Try.f39), (40, Try.f40), (41, Try.f41), (42, Try.f42), (43, Try.f43), (44, Try.f44), (45, Try.f45), (46, Try.f46), (48, Try.f48), (49, Try.f49), (50, Try.f50), (54, Try.f54), (55, Try.f55), (59, Try.f59), (60, Try.f60), (61, Try.f61), (62, Try.f62), (63, Try.f63), (64, Try.f64), (65, Try.f65), (66, Try.f66), (67, Try.f67), (68, Try.f68), (69, Try.f69), (70, Try.f70), (72, Try.f72), (73, Try.f73), (76, Try.f76), (77, Try.f77), (78, Try.f78), (79, Try.f79), (80, Try.f80), (81, Try.f81), (82, Try.f82), (83, Try.f83), (84, Try.f84), (85, Try.f85), (86, Try.f86), (87, Try.f87), (88, Try.f88), (89, Try.f89), (90, Try.f90), (91, Try.f91), (92, Try.f92), (93, Try.f93), (94, Try.f94), (95, Try.f95), (96, Try.f96), (97, Try.f97), (98, Try.f98), (99, Try.f99), (100, Try.f100)], tab := tab, foreign := fun _ => none }
theorem sys0_ok : SysOK Try.prog S0 where
  tab := tab_is_ok
  mixed := by kernel_rfl
  fn := fnOf_spec (by
    intro p hp
    simp only [List.mem_cons, List.not_mem_nil, or_false] at hp
    rcases hp with rfl | rfl | rfl | rfl | rfl | rfl | rfl | rfl | rfl | rfl | rfl | rfl | rfl | rfl | rfl | rfl | rfl | rfl | rfl | rfl | rfl | rfl | rfl | rfl | rfl | rfl | rfl | rfl | rfl | rfl | rfl | rfl | rfl | rfl | rfl | rfl | rfl | rfl | rfl | rfl | rfl | rfl | rfl | rfl | rfl | rfl | rfl | rfl | rfl | rfl | rfl | rfl | rfl | rfl | rfl | rfl | rfl | rfl | rfl | rfl | rfl | rfl
    · exact ⟨Try.func17, by kernel_rfl⟩
    · exact ⟨Try.func18, by kernel_rfl⟩
    · exact ⟨Try.func20, by kernel_rfl⟩
    · exact ⟨Try.func21, by kernel_rfl⟩
    · exact ⟨Try.func22, by kernel_rfl⟩
    · exact ⟨Try.func24, by kernel_rfl⟩
    · exact ⟨Try.func26, by kernel_rfl⟩
    · exact ⟨Try.func32, by kernel_rfl⟩
    · exact ⟨Try.func36, by kernel_rfl⟩
    · exact ⟨Try.func38, by kernel_rfl⟩
    · exact ⟨Try.func39, by kernel_rfl⟩
    · exact ⟨Try.func40, by kernel_rfl⟩
    · exact ⟨Try.func41, by kernel_rfl⟩
    · exact ⟨Try.func42, by kernel_rfl⟩
    · exact ⟨Try.func43, by kernel_rfl⟩
    · exact ⟨Try.func44, by kernel_rfl⟩
    · exact ⟨Try.func45, by kernel_rfl⟩
    · exact ⟨Try.func46, by kernel_rfl⟩
    · exact ⟨Try.func48, by kernel_rfl⟩
    · exact ⟨Try.func49, by kernel_rfl⟩
    · exact ⟨Try.func50, by kernel_rfl⟩
    · exact ⟨Try.func54, by kernel_rfl⟩
    · exact ⟨Try.func55, by kernel_rfl⟩
    · exact ⟨Try.func59, by kernel_rfl⟩
    · exact ⟨Try.func60, by kernel_rfl⟩
    · exact ⟨Try.func61, by kernel_rfl⟩
    · exact ⟨Try.func62, by kernel_rfl⟩
    · exact ⟨Try.func63, by kernel_rfl⟩
    · exact ⟨Try.func64, by kernel_rfl⟩
    · exact ⟨Try.func65, by kernel_rfl⟩
    · exact ⟨Try.func66, by kernel_rfl⟩
    · exact ⟨Try.func67, by kernel_rfl⟩
    · exact ⟨Try.func68, by kernel_rfl⟩
    · exact ⟨Try.func69, by kernel_rfl⟩
    · exact ⟨Try.func70, by kernel_rfl⟩
    · exact ⟨Try.func72, by kernel_rfl⟩
    · exact ⟨Try.func73, by kernel_rfl⟩
    · exact ⟨Try.func76, by kernel_rfl⟩
    · exact ⟨Try.func77, by kernel_rfl⟩
    · exact ⟨Try.func78, by kernel_rfl⟩
    · exact ⟨Try.func79, by kernel_rfl⟩
    · exact ⟨Try.func80, by kernel_rfl⟩
    · exact ⟨Try.func81, by kernel_rfl⟩
    · exact ⟨Try.func82, by kernel_rfl⟩
    · exact ⟨Try.func83, by kernel_rfl⟩
    · exact ⟨Try.func84, by kernel_rfl⟩
    · exact ⟨Try.func85, by kernel_rfl⟩
    · exact ⟨Try.func86, by kernel_rfl⟩
    · exact ⟨Try.func87, by kernel_rfl⟩
    · exact ⟨Try.func88, by kernel_rfl⟩
    · exact ⟨Try.func89, by kernel_rfl⟩
    · exact ⟨Try.func90, by kernel_rfl⟩
    · exact ⟨Try.func91, by kernel_rfl⟩
    · exact ⟨Try.func92, by kernel_rfl⟩
    · exact ⟨Try.func93, by kernel_rfl⟩
    · exact ⟨Try.func94, by kernel_rfl⟩
    · exact ⟨Try.func95, by kernel_rfl⟩
    · exact ⟨Try.func96, by kernel_rfl⟩
    · exact ⟨Try.func97, by kernel_rfl⟩
    · exact ⟨Try.func98, by kernel_rfl⟩
    · exact ⟨Try.func99, by kernel_rfl⟩
    · exact ⟨Try.func100, by kernel_rfl⟩)
  foreign := fun f g h => by cases h
noncomputable def XFL : List (Nat × (XC × List ResultVar)) := [(17, (c17, [.tmp 0])), (18, (c18, [.tmp 6, .tmp 7])), (20, (c20, [.tmp 4])), (21, (c21, [.tmp 2])), (22, (c22, [.tmp 2])), (24, (c24, [.tmp 2])), (26, (c26, [.cell 2 27])), (32, (c32, [.tmp 4])), (36, (c36, [.tmp 6])), (38, (c38, [.cell 2 27])), (39, (c39, [.tmp 2])), (40, (c40, [.tmp 4])), (41, (c41, [.tmp 2])), (42, (c42, [.tmp 2])), (43, (c43, [.tmp 6])), (44, (c44, [.tmp 4])), (45, (c45, [.tmp 6])), (46, (c46, [.tmp 2])), (48, (c48, [.tmp 2])), (49, (c49, [.tmp 2])), (50, (c50, [.tmp 2])), (54, (c54, [.tmp 4])), (55, (c55, [.tmp 4])), (59, (c59, [.tmp 2])), (60, (c60, [.tmp 3])), (61, (c61, [])), (62, (c62, [.tmp 6])), (63, (c63, [.tmp 2])), (64, (c64, [.tmp 2])), (65, (c65, [.cell 2 61])), (66, (c66, [.tmp 2])), (67, (c67, [.tmp 4])), (68, (c68, [.tmp 4])), (69, (c69, [.tmp 2])), (70, (c70, [.tmp 2])), (72, (c72, [.tmp 6])), (73, (c73, [.tmp 4])), (76, (c76, [.tmp 4])), (77, (c77, [.tmp 2])), (78, (c78, [.tmp 2])), (79, (c79, [.tmp 2])), (80, (c80, [.tmp 2])), (81, (c81, [.tmp 6])), (82, (c82, [.tmp 2])), (83, (c83, [.tmp 2])), (84, (c84, [.tmp 3])), (85, (c85, [.tmp 4])), (86, (c86, [.tmp 2])), (87, (c87, [.tmp 4])), (88, (c88, [.tmp 4])), (89, (c89, [.tmp 2, .tmp 3])), (90, (c90, [.tmp 6])), (91, (c91, [.tmp 4])), (92, (c92, [.tmp 4])), (93, (c93, [.tmp 2])), (94, (c94, [.cell 2 103])), (95, (c95, [.tmp 2])), (96, (c96, [.tmp 2])), (97, (c97, [.tmp 2])), (98, (c98, [.tmp 2])), (99, (c99, [.tmp 2])), (100, (c100, [.tmp 2]))]
theorem XFL_ok : XFok S0 (pickOf XFL) := xf_ok (by
    intro p hp
    simp only [XFL, List.mem_cons, List.not_mem_nil, or_false] at hp
    rcases hp with rfl | rfl | rfl | rfl | rfl | rfl | rfl | rfl | rfl | rfl | rfl | rfl | rfl | rfl | rfl | rfl | rfl | rfl | rfl | rfl | rfl | rfl | rfl | rfl | rfl | rfl | rfl | rfl | rfl | rfl | rfl | rfl | rfl | rfl | rfl | rfl | rfl | rfl | rfl | rfl | rfl | rfl | rfl | rfl | rfl | rfl | rfl | rfl | rfl | rfl | rfl | rfl | rfl | rfl | rfl | rfl | rfl | rfl | rfl | rfl | rfl | rfl
    · exact ⟨Try.f17, by kernel_rfl, c17_ok, by kernel_rfl⟩
    · exact ⟨Try.f18, by kernel_rfl, c18_ok, by kernel_rfl⟩
    · exact ⟨Try.f20, by kernel_rfl, c20_ok, by kernel_rfl⟩
    · exact ⟨Try.f21, by kernel_rfl, c21_ok, by kernel_rfl⟩
    · exact ⟨Try.f22, by kernel_rfl, c22_ok, by kernel_rfl⟩
    · exact ⟨Try.f24, by kernel_rfl, c24_ok, by kernel_rfl⟩
    · exact ⟨Try.f26, by kernel_rfl, c26_ok, by kernel_rfl⟩
    · exact ⟨Try.f32, by kernel_rfl, c32_ok, by kernel_rfl⟩
    · exact ⟨Try.f36, by kernel_rfl, c36_ok, by kernel_rfl⟩
    · exact ⟨Try.f38, by kernel_rfl, c38_ok, by kernel_rfl⟩
    · exact ⟨Try.f39, by kernel_rfl, c39_ok, by kernel_rfl⟩
    · exact ⟨Try.f40, by kernel_rfl, c40_ok, by kernel_rfl⟩
    · exact ⟨Try.f41, by kernel_rfl, c41_ok, by kernel_rfl⟩
    · exact ⟨Try.f42, by kernel_rfl, c42_ok, by kernel_rfl⟩
    · exact ⟨Try.f43, by kernel_rfl, c43_ok, by kernel_rfl⟩
    · exact ⟨Try.f44, by kernel_rfl, c44_ok, by kernel_rfl⟩
    · exact ⟨Try.f45, by kernel_rfl, c45_ok, by kernel_rfl⟩
    · exact ⟨Try.f46, by kernel_rfl, c46_ok, by kernel_rfl⟩
    · exact ⟨Try.f48, by kernel_rfl, c48_ok, by kernel_rfl⟩
    · exact ⟨Try.f49, by kernel_rfl, c49_ok, by kernel_rfl⟩
    · exact ⟨Try.f50, by kernel_rfl, c50_ok, by kernel_rfl⟩
    · exact ⟨Try.f54, by kernel_rfl, c54_ok, by kernel_rfl⟩
    · exact ⟨Try.f55, by kernel_rfl, c55_ok, by kernel_rfl⟩
    · exact ⟨Try.f59, by kernel_rfl, c59_ok, by kernel_rfl⟩
    · exact ⟨Try.f60, by kernel_rfl, c60_ok, by kernel_rfl⟩
    · exact ⟨Try.f61, by kernel_rfl, c61_ok, by kernel_rfl⟩
    · exact ⟨Try.f62, by kernel_rfl, c62_ok, by kernel_rfl⟩
    · exact ⟨Try.f63, by kernel_rfl, c63_ok, by kernel_rfl⟩
    · exact ⟨Try.f64, by kernel_rfl, c64_ok, by kernel_rfl⟩
    · exact ⟨Try.f65, by kernel_rfl, c65_ok, by kernel_rfl⟩
    · exact ⟨Try.f66, by kernel_rfl, c66_ok, by kernel_rfl⟩
    · exact ⟨Try.f67, by kernel_rfl, c67_ok, by kernel_rfl⟩
    · exact ⟨Try.f68, by kernel_rfl, c68_ok, by kernel_rfl⟩
    · exact ⟨Try.f69, by kernel_rfl, c69_ok, by kernel_rfl⟩
    · exact ⟨Try.f70, by kernel_rfl, c70_ok, by kernel_rfl⟩
    · exact ⟨Try.f72, by kernel_rfl, c72_ok, by kernel_rfl⟩
    · exact ⟨Try.f73, by kernel_rfl, c73_ok, by kernel_rfl⟩
    · exact ⟨Try.f76, by kernel_rfl, c76_ok, by kernel_rfl⟩
    · exact ⟨Try.f77, by kernel_rfl, c77_ok, by kernel_rfl⟩
    · exact ⟨Try.f78, by kernel_rfl, c78_ok, by kernel_rfl⟩
    · exact ⟨Try.f79, by kernel_rfl, c79_ok, by kernel_rfl⟩
    · exact ⟨Try.f80, by kernel_rfl, c80_ok, by kernel_rfl⟩
    · exact ⟨Try.f81, by kernel_rfl, c81_ok, by kernel_rfl⟩
    · exact ⟨Try.f82, by kernel_rfl, c82_ok, by kernel_rfl⟩
    · exact ⟨Try.f83, by kernel_rfl, c83_ok, by kernel_rfl⟩
    · exact ⟨Try.f84, by kernel_rfl, c84_ok, by kernel_rfl⟩
    · exact ⟨Try.f85, by kernel_rfl, c85_ok, by kernel_rfl⟩
    · exact ⟨Try.f86, by kernel_rfl, c86_ok, by kernel_rfl⟩
    · exact ⟨Try.f87, by kernel_rfl, c87_ok, by kernel_rfl⟩
    · exact ⟨Try.f88, by kernel_rfl, c88_ok, by kernel_rfl⟩
    · exact ⟨Try.f89, by kernel_rfl, c89_ok, by kernel_rfl⟩
    · exact ⟨Try.f90, by kernel_rfl, c90_ok, by kernel_rfl⟩
    · exact ⟨Try.f91, by kernel_rfl, c91_ok, by kernel_rfl⟩
    · exact ⟨Try.f92, by kernel_rfl, c92_ok, by kernel_rfl⟩
    · exact ⟨Try.f93, by kernel_rfl, c93_ok, by kernel_rfl⟩
    · exact ⟨Try.f94, by kernel_rfl, c94_ok, by kernel_rfl⟩
    · exact ⟨Try.f95, by kernel_rfl, c95_ok, by kernel_rfl⟩
    · exact ⟨Try.f96, by kernel_rfl, c96_ok, by kernel_rfl⟩
    · exact ⟨Try.f97, by kernel_rfl, c97_ok, by kernel_rfl⟩
    · exact ⟨Try.f98, by kernel_rfl, c98_ok, by kernel_rfl⟩
    · exact ⟨Try.f99, by kernel_rfl, c99_ok, by kernel_rfl⟩
    · exact ⟨Try.f100, by kernel_rfl, c100_ok, by kernel_rfl⟩)
theorem closed17 : callN S0 (pickOf XFL) 5000 100 17 [] [] = some (.d (.bool true), []) := by kernel_rfl
end Go.Proofs.Ytipkggkbldgmjaa
