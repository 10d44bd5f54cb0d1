/- T -/
import Derived.Test.YtedfkehkcaaplaaTFC
import Derived.Test.YtedfkehkcaaplaaXEval
import Derived.ProofKit
namespace Go.Proofs.Ytedfkehkcaaplaa
open Go Go.X
set_option linter.unusedVariables false
set_option maxRecDepth 100000
noncomputable def k7 : XC := (Try.f7.body.map (strip (tab.ann 7))).getD .skip
theorem aeL : Try.f7.body.map (strip (tab.ann 7)) = some k7 := by kernel_rfl
noncomputable def k11 : XC := (Try.f11.body.map (strip (tab.ann 11))).getD .skip
theorem ab0 : Try.f11.body.map (strip (tab.ann 11)) = some k11 := by kernel_rfl
noncomputable def k19 : XC := (Try.f19.body.map (strip (tab.ann 19))).getD .skip
theorem ab1 : Try.f19.body.map (strip (tab.ann 19)) = some k19 := by kernel_rfl
noncomputable def k20 : XC := (Try.f20.body.map (strip (tab.ann 20))).getD .skip
theorem ab2 : Try.f20.body.map (strip (tab.ann 20)) = some k20 := by kernel_rfl
noncomputable def k21 : XC := (Try.f21.body.map (strip (tab.ann 21))).getD .skip
theorem ab3 : Try.f21.body.map (strip (tab.ann 21)) = some k21 := by kernel_rfl
noncomputable def k22 : XC := (Try.f22.body.map (strip (tab.ann 22))).getD .skip
theorem ab4 : Try.f22.body.map (strip (tab.ann 22)) = some k22 := by kernel_rfl
noncomputable def k33 : XC := (Try.f33.body.map (strip (tab.ann 33))).getD .skip
theorem ab5 : Try.f33.body.map (strip (tab.ann 33)) = some k33 := by kernel_rfl
noncomputable def k35 : XC := (Try.f35.body.map (strip (tab.ann 35))).getD .skip
theorem ab6 : Try.f35.body.map (strip (tab.ann 35)) = some k35 := by kernel_rfl
noncomputable def k55 : XC := (Try.f55.body.map (strip (tab.ann 55))).getD .skip
theorem ab7 : Try.f55.body.map (strip (tab.ann 55)) = some k55 := by kernel_rfl
noncomputable def k56 : XC := (Try.f56.body.map (strip (tab.ann 56))).getD .skip
theorem ab8 : Try.f56.body.map (strip (tab.ann 56)) = some k56 := by kernel_rfl
noncomputable def S0 : X.Sys := { fn := yN [(7, Try.f7), (9, Try.f9), (10, Try.f10), (11, Try.f11), (13, Try.f13), (14, Try.f14), (19, Try.f19), (20, Try.f20), (21, Try.f21), (22, Try.f22), (25, Try.f25), (26, Try.f26), (27, Try.f27), (28, Try.f28), (29, Try.f29), (30, Try.f30), (31, Try.f31), (32, Try.f32), (33, Try.f33), (34, Try.f34), (35, Try.f35), (36, Try.f36), (42, Try.f42), (43, Try.f43), (44, Try.f44), (55, Try.f55), (56, Try.f56), (57, Try.f57), (58, Try.f58), (59, Try.f59), (60, Try.f60), (61, Try.f61), (62, Try.f62), (63, Try.f63), (64, Try.f64), (65, Try.f65), (69, Try.f69), (70, Try.f70), (82, Try.f82), (83, Try.f83), (84, Try.f84), (85, Try.f85), (86, Try.f86), (87, Try.f87), (88, Try.f88), (89, Try.f89), (94, Try.f94), (97, Try.f97), (102, Try.f102), (103, Try.f103), (104, Try.f104), (105, Try.f105), (106, Try.f106), (107, Try.f107), (111, Try.f111), (113, Try.f113), (115, Try.f115), (116, Try.f116), (117, Try.f117), (120, Try.f120), (123, Try.f123), (124, Try.f124), (131, Try.f131), (132, Try.f132)], tab := tab, foreign := fun _ => none }
theorem mZ : pW Try.prog S0 where
 tab := Gm
 mixed := by kernel_rfl
 fn := zL (by
  intro p hp
  simp only [List.mem_cons, List.not_mem_nil, or_false] at hp
  rcases hp with rfl | rfl | rfl | rfl | rfl | rfl | rfl | rfl | rfl | rfl | rfl | rfl | rfl | rfl | rfl | rfl | rfl | rfl | rfl | rfl | rfl | rfl | rfl | rfl | rfl | rfl | rfl | rfl | rfl | rfl | rfl | rfl | rfl | rfl | rfl | rfl | rfl | rfl | rfl | rfl | rfl | rfl | rfl | rfl | rfl | rfl | rfl | rfl | rfl | rfl | rfl | rfl | rfl | rfl | rfl | rfl | rfl | rfl | rfl | rfl | rfl | rfl | rfl | rfl
  ·exact ⟨Try.func7, by kernel_rfl⟩
  ·exact ⟨Try.func9, by kernel_rfl⟩
  ·exact ⟨Try.func10, by kernel_rfl⟩
  ·exact ⟨Try.func11, by kernel_rfl⟩
  ·exact ⟨Try.func13, by kernel_rfl⟩
  ·exact ⟨Try.func14, by kernel_rfl⟩
  ·exact ⟨Try.func19, by kernel_rfl⟩
  ·exact ⟨Try.func20, by kernel_rfl⟩
  ·exact ⟨Try.func21, by kernel_rfl⟩
  ·exact ⟨Try.func22, by kernel_rfl⟩
  ·exact ⟨Try.func25, by kernel_rfl⟩
  ·exact ⟨Try.func26, by kernel_rfl⟩
  ·exact ⟨Try.func27, by kernel_rfl⟩
  ·exact ⟨Try.func28, by kernel_rfl⟩
  ·exact ⟨Try.func29, by kernel_rfl⟩
  ·exact ⟨Try.func30, by kernel_rfl⟩
  ·exact ⟨Try.func31, by kernel_rfl⟩
  ·exact ⟨Try.func32, by kernel_rfl⟩
  ·exact ⟨Try.func33, by kernel_rfl⟩
  ·exact ⟨Try.func34, by kernel_rfl⟩
  ·exact ⟨Try.func35, by kernel_rfl⟩
  ·exact ⟨Try.func36, by kernel_rfl⟩
  ·exact ⟨Try.func42, by kernel_rfl⟩
  ·exact ⟨Try.func43, by kernel_rfl⟩
  ·exact ⟨Try.func44, by kernel_rfl⟩
  ·exact ⟨Try.func55, by kernel_rfl⟩
  ·exact ⟨Try.func56, by kernel_rfl⟩
  ·exact ⟨Try.func57, by kernel_rfl⟩
  ·exact ⟨Try.func58, by kernel_rfl⟩
  ·exact ⟨Try.func59, by kernel_rfl⟩
  ·exact ⟨Try.func60, by kernel_rfl⟩
  ·exact ⟨Try.func61, by kernel_rfl⟩
  ·exact ⟨Try.func62, by kernel_rfl⟩
  ·exact ⟨Try.func63, by kernel_rfl⟩
  ·exact ⟨Try.func64, by kernel_rfl⟩
  ·exact ⟨Try.func65, by kernel_rfl⟩
  ·exact ⟨Try.func69, by kernel_rfl⟩
  ·exact ⟨Try.func70, by kernel_rfl⟩
  ·exact ⟨Try.func82, by kernel_rfl⟩
  ·exact ⟨Try.func83, by kernel_rfl⟩
  ·exact ⟨Try.func84, by kernel_rfl⟩
  ·exact ⟨Try.func85, by kernel_rfl⟩
  ·exact ⟨Try.func86, by kernel_rfl⟩
  ·exact ⟨Try.func87, by kernel_rfl⟩
  ·exact ⟨Try.func88, by kernel_rfl⟩
  ·exact ⟨Try.func89, by kernel_rfl⟩
  ·exact ⟨Try.func94, by kernel_rfl⟩
  ·exact ⟨Try.func97, by kernel_rfl⟩
  ·exact ⟨Try.func102, by kernel_rfl⟩
  ·exact ⟨Try.func103, by kernel_rfl⟩
  ·exact ⟨Try.func104, by kernel_rfl⟩
  ·exact ⟨Try.func105, by kernel_rfl⟩
  ·exact ⟨Try.func106, by kernel_rfl⟩
  ·exact ⟨Try.func107, by kernel_rfl⟩
  ·exact ⟨Try.func111, by kernel_rfl⟩
  ·exact ⟨Try.func113, by kernel_rfl⟩
  ·exact ⟨Try.func115, by kernel_rfl⟩
  ·exact ⟨Try.func116, by kernel_rfl⟩
  ·exact ⟨Try.func117, by kernel_rfl⟩
  ·exact ⟨Try.func120, by kernel_rfl⟩
  ·exact ⟨Try.func123, by kernel_rfl⟩
  ·exact ⟨Try.func124, by kernel_rfl⟩
  ·exact ⟨Try.func131, by kernel_rfl⟩
  ·exact ⟨Try.func132, by kernel_rfl⟩)
 sites := sI (fun _ => rfl) (by
  intro p hp
  simp only [List.mem_cons, List.not_mem_nil, or_false] at hp
  rcases hp with rfl | rfl | rfl | rfl | rfl | rfl | rfl | rfl | rfl | rfl | rfl | rfl | rfl | rfl | rfl | rfl | rfl | rfl | rfl | rfl | rfl | rfl | rfl | rfl | rfl | rfl | rfl | rfl | rfl | rfl | rfl | rfl | rfl | rfl | rfl | rfl | rfl | rfl | rfl | rfl | rfl | rfl | rfl | rfl | rfl | rfl | rfl | rfl | rfl | rfl | rfl | rfl | rfl | rfl | rfl | rfl | rfl | rfl | rfl | rfl | rfl | rfl | rfl | rfl
  iterate 14 exact .inl (by kernel_rfl)
  iterate 1 exact .inr ⟨by kernel_rfl, by kernel_rfl⟩
  iterate 8 exact .inl (by kernel_rfl)
  iterate 1 exact .inr ⟨by kernel_rfl, by kernel_rfl⟩
  iterate 40 exact .inl (by kernel_rfl))
 site := fun g q h => vN (F := PS) (L := Dv) (by
  intro p hp
  simp only [Dv, List.mem_cons, List.not_mem_nil, or_false] at hp
  first
  | exact hp.elim
  | (subst hp; exact ⟨by kernel_rfl, by kernel_rfl, by kernel_rfl⟩)
  | (rcases hp with rfl | rfl | rfl <;> exact ⟨by kernel_rfl, by kernel_rfl, by kernel_rfl⟩)) g q h
 foreign := fun f g h => by cases h
noncomputable def Vk : List (Nat × (XC × List ResultVar)) := [(7, (k7, [.tmp 0])), (9, (cc9, [.tmp 2])), (10, (ad5, [.cell 2 32])), (11, (k11, [.cell 4 34])), (13, (ad7, [.cell 4 34, .tmp 5])), (14, (ad8, [.tmp 4])), (19, (k19, [.cell 6 34])), (20, (k20, [.tmp 4])), (21, (k21, [.tmp 2])), (22, (k22, [.cell 2 32])), (25, (ad9, [.tmp 6])), (26, (abX, [.tmp 2])), (27, (aea, [.tmp 4])), (28, (aeb, [.tmp 4])), (29, (aec, [])), (30, (aed, [])), (31, (abY, [.cell 2 34])), (32, (aee, [])), (33, (k33, [.tmp 4])), (34, (aef, [.tmp 2])), (35, (k35, [.cell 5 34])), (36, (aeg, [.tmp 2])), (42, (aej, [.tmp 2])), (43, (aek, [.cell 4 32])), (44, (ael, [.tmp 2])), (55, (k55, [])), (56, (k56, [])), (57, (aem, [.tmp 3])), (58, (aen, [.tmp 4])), (59, (aeo, [.tmp 2])), (60, (abZ, [.tmp 4])), (61, (aep, [.tmp 4])), (62, (aer, [.cell 2 29])), (63, (aes, [.tmp 2])), (64, (aeu, [.tmp 2])), (65, (aev, [.cell 2 27])), (69, (aex, [.tmp 4])), (70, (aey, [])), (82, (aez, [.tmp 4])), (83, (aeA, [.tmp 6])), (84, (aeB, [.tmp 4])), (85, (aeC, [.tmp 4])), (86, (aeD, [.cell 2 78])), (87, (aeE, [.tmp 4])), (88, (aeF, [.tmp 2])), (89, (aeG, [.tmp 2])), (94, (aeH, [.tmp 2])), (97, (aeI, [.tmp 2])), (102, (aaN, [.tmp 6])), (103, (aaO, [.tmp 4])), (104, (aaP, [.tmp 2])), (105, (aaQ, [.tmp 4])), (106, (aaR, [.tmp 4])), (107, (aaS, [.cell 2 112])), (111, (aaU, [.tmp 2])), (113, (aaV, [.tmp 2])), (115, (aaW, [.tmp 4])), (116, (aaX, [.cell 2 128])), (117, (Uy, [.cell 2 126])), (120, (aaZ, [.tmp 2])), (123, (aa0, [.tmp 2])), (124, (aa1, [.tmp 2])), (131, (aa2, [.tmp 4])), (132, (aa3, [.tmp 2]))]
theorem uX : RD S0 (fG Vk) := ad3 (by
  intro p hp
  simp only [Vk, List.mem_cons, List.not_mem_nil, or_false] at hp
  rcases hp with rfl | rfl | rfl | rfl | rfl | rfl | rfl | rfl | rfl | rfl | rfl | rfl | rfl | rfl | rfl | rfl | rfl | rfl | rfl | rfl | rfl | rfl | rfl | rfl | rfl | rfl | rfl | rfl | rfl | rfl | rfl | rfl | rfl | rfl | rfl | rfl | rfl | rfl | rfl | rfl | rfl | rfl | rfl | rfl | rfl | rfl | rfl | rfl | rfl | rfl | rfl | rfl | rfl | rfl | rfl | rfl | rfl | rfl | rfl | rfl | rfl | rfl | rfl | rfl
  ·exact ⟨Try.f7, by kernel_rfl, aeL, by kernel_rfl⟩
  ·exact ⟨Try.f9, by kernel_rfl, abU, by kernel_rfl⟩
  ·exact ⟨Try.f10, by kernel_rfl, X5, by kernel_rfl⟩
  ·exact ⟨Try.f11, by kernel_rfl, ab0, by kernel_rfl⟩
  ·exact ⟨Try.f13, by kernel_rfl, X7, by kernel_rfl⟩
  ·exact ⟨Try.f14, by kernel_rfl, X8, by kernel_rfl⟩
  ·exact ⟨Try.f19, by kernel_rfl, ab1, by kernel_rfl⟩
  ·exact ⟨Try.f20, by kernel_rfl, ab2, by kernel_rfl⟩
  ·exact ⟨Try.f21, by kernel_rfl, ab3, by kernel_rfl⟩
  ·exact ⟨Try.f22, by kernel_rfl, ab4, by kernel_rfl⟩
  ·exact ⟨Try.f25, by kernel_rfl, X9, by kernel_rfl⟩
  ·exact ⟨Try.f26, by kernel_rfl, PU, by kernel_rfl⟩
  ·exact ⟨Try.f27, by kernel_rfl, Ya, by kernel_rfl⟩
  ·exact ⟨Try.f28, by kernel_rfl, Yb, by kernel_rfl⟩
  ·exact ⟨Try.f29, by kernel_rfl, Yc, by kernel_rfl⟩
  ·exact ⟨Try.f30, by kernel_rfl, Yd, by kernel_rfl⟩
  ·exact ⟨Try.f31, by kernel_rfl, PW, by kernel_rfl⟩
  ·exact ⟨Try.f32, by kernel_rfl, Ye, by kernel_rfl⟩
  ·exact ⟨Try.f33, by kernel_rfl, ab5, by kernel_rfl⟩
  ·exact ⟨Try.f34, by kernel_rfl, Yf, by kernel_rfl⟩
  ·exact ⟨Try.f35, by kernel_rfl, ab6, by kernel_rfl⟩
  ·exact ⟨Try.f36, by kernel_rfl, Yg, by kernel_rfl⟩
  ·exact ⟨Try.f42, by kernel_rfl, Yj, by kernel_rfl⟩
  ·exact ⟨Try.f43, by kernel_rfl, Yk, by kernel_rfl⟩
  ·exact ⟨Try.f44, by kernel_rfl, Yl, by kernel_rfl⟩
  ·exact ⟨Try.f55, by kernel_rfl, ab7, by kernel_rfl⟩
  ·exact ⟨Try.f56, by kernel_rfl, ab8, by kernel_rfl⟩
  ·exact ⟨Try.f57, by kernel_rfl, Ym, by kernel_rfl⟩
  ·exact ⟨Try.f58, by kernel_rfl, Yn, by kernel_rfl⟩
  ·exact ⟨Try.f59, by kernel_rfl, Yo, by kernel_rfl⟩
  ·exact ⟨Try.f60, by kernel_rfl, PX, by kernel_rfl⟩
  ·exact ⟨Try.f61, by kernel_rfl, Yp, by kernel_rfl⟩
  ·exact ⟨Try.f62, by kernel_rfl, Yq, by kernel_rfl⟩
  ·exact ⟨Try.f63, by kernel_rfl, Yr, by kernel_rfl⟩
  ·exact ⟨Try.f64, by kernel_rfl, Yt, by kernel_rfl⟩
  ·exact ⟨Try.f65, by kernel_rfl, Yu, by kernel_rfl⟩
  ·exact ⟨Try.f69, by kernel_rfl, Yw, by kernel_rfl⟩
  ·exact ⟨Try.f70, by kernel_rfl, Yx, by kernel_rfl⟩
  ·exact ⟨Try.f82, by kernel_rfl, Yy, by kernel_rfl⟩
  ·exact ⟨Try.f83, by kernel_rfl, Yz, by kernel_rfl⟩
  ·exact ⟨Try.f84, by kernel_rfl, YA, by kernel_rfl⟩
  ·exact ⟨Try.f85, by kernel_rfl, YB, by kernel_rfl⟩
  ·exact ⟨Try.f86, by kernel_rfl, YC, by kernel_rfl⟩
  ·exact ⟨Try.f87, by kernel_rfl, YD, by kernel_rfl⟩
  ·exact ⟨Try.f88, by kernel_rfl, YE, by kernel_rfl⟩
  ·exact ⟨Try.f89, by kernel_rfl, YF, by kernel_rfl⟩
  ·exact ⟨Try.f94, by kernel_rfl, YG, by kernel_rfl⟩
  ·exact ⟨Try.f97, by kernel_rfl, YH, by kernel_rfl⟩
  ·exact ⟨Try.f102, by kernel_rfl, Um, by kernel_rfl⟩
  ·exact ⟨Try.f103, by kernel_rfl, Un, by kernel_rfl⟩
  ·exact ⟨Try.f104, by kernel_rfl, Uo, by kernel_rfl⟩
  ·exact ⟨Try.f105, by kernel_rfl, Uq, by kernel_rfl⟩
  ·exact ⟨Try.f106, by kernel_rfl, Ur, by kernel_rfl⟩
  ·exact ⟨Try.f107, by kernel_rfl, Us, by kernel_rfl⟩
  ·exact ⟨Try.f111, by kernel_rfl, Uu, by kernel_rfl⟩
  ·exact ⟨Try.f113, by kernel_rfl, Uv, by kernel_rfl⟩
  ·exact ⟨Try.f115, by kernel_rfl, Uw, by kernel_rfl⟩
  ·exact ⟨Try.f116, by kernel_rfl, Ux, by kernel_rfl⟩
  ·exact ⟨Try.f117, by kernel_rfl, Lp, by kernel_rfl⟩
  ·exact ⟨Try.f120, by kernel_rfl, UA, by kernel_rfl⟩
  ·exact ⟨Try.f123, by kernel_rfl, UC, by kernel_rfl⟩
  ·exact ⟨Try.f124, by kernel_rfl, UD, by kernel_rfl⟩
  ·exact ⟨Try.f131, by kernel_rfl, UE, by kernel_rfl⟩
  ·exact ⟨Try.f132, by kernel_rfl, UF, by kernel_rfl⟩)
noncomputable def Vl : List (Nat × (Nat × List Nat × XC × XC)) := [(155, (29, [15], Ui, Uj)), (156, (43, [18], Uk, Ul))]
theorem uY : RF S0 (fG Vl) := ad4 (by
  intro p hp
  simp only [Vl, List.mem_cons, List.not_mem_nil, or_false] at hp
  rcases hp with rfl | rfl
  ·exact ⟨Ll, by kernel_rfl⟩
  ·exact ⟨Lm, by kernel_rfl⟩)
def lI (k : IntKind) (n : Nat) : D := .int k (.ofNat n)
def lS (l : List UInt8) : D := .str (.mk (.mk l))
def lE : D := lS []
def lN : D := .sl [] .none
def lO : D := .sl [] (.some [])
def lF : D := .bool .false
def lZ : D := lI .u8 0
def ld0 : D := (.sl [[(lI .i64 3), (lS [105, 58, 100]), (lI .u8 1), lE, lZ, (lI .i64 0), lE, lO, lO, lZ, lE, lF, lO, lO, lO, (lI .i64 0), lF, lF, lZ, (lI .i64 0), lE, lO, lO, lZ, lE, lF, lE, lF, lO, lF, lF]] (.some []))
def ld1 : D := (.sl [[(lI .i64 4), (lS [105, 58, 101]), (lI .u8 9), lE, lZ, (lI .i64 0), lE, lO, lO, lZ, lE, lF, lO, lO, lO, (lI .i64 0), lF, lF, lZ, (lI .i64 0), lE, lO, lO, lZ, lE, lF, lE, lF, lO, lF, lF]] (.some []))
def ld2 : D := (.sl [[(lI .i64 2), (lS [105, 58, 99]), (lI .u8 8), lE, lZ, (lI .i64 0), lE, lO, lO, lZ, lE, lF, lO, lO, ld0, (lI .i64 0), lF, lF, lZ, (lI .i64 0), lE, lO, lO, lZ, lE, lF, lE, (.bool .true), ld1, lF, lF], [(lI .i64 5), (lS [105, 58, 102]), (lI .u8 9), lE, lZ, (lI .i64 0), lE, lO, lO, lZ, lE, lF, lO, lO, lO, (lI .i64 0), lF, lF, lZ, (lI .i64 0), lE, lO, lO, lZ, lE, lF, lE, lF, lO, lF, lF]] (.some []))
def lp3 : PV := (.agg [(.d (lI .i64 1)), (.d (lS [105, 58, 98])), (.d (lI .u8 1)), (.d lE), (.d lZ), (.d (lI .i64 0)), (.d lE), (.d lO), (.d lO), (.d lZ), (.d lE), (.d lF), (.d lO), (.d lO), (.d ld2), (.d (lI .i64 0)), (.d lF), (.d lF), (.d lZ), (.d (lI .i64 0)), (.d lE), (.d lO), (.d lO), (.d lZ), (.d lE), (.d lF), (.d lE), (.d lF), (.d lO), (.d lF), (.d lF)])
def lp4 : PV := (.agg [(.d (lI .i64 0)), (.d lE), (.d lZ), (.d lE), (.d lZ), (.d (lI .i64 0)), (.d lE), (.d lO), (.d lO), (.d lZ), (.d lE), (.d lF), (.d lO), (.d lO), (.d lO), (.d (lI .i64 0)), (.d lF), (.d lF), (.d lZ), (.d (lI .i64 0)), (.d lE), (.d lO), (.d lO), (.d lZ), (.d lE), (.d lF), (.d lE), (.d lF), (.d lO), (.d lF), (.d lF)])
def ld5 : D := (.sl [[(lI .i64 3), (lS [105, 58, 100]), (lI .u8 1), lE, lZ, (lI .i64 0), lE, lN, lN, lZ, lE, lF, lN, lN, lN, (lI .i64 0), lF, lF, lZ, (lI .i64 0), lE, lN, lN, lZ, lE, lF, lE, lF, lN, lF, lF]] .none)
def ld6 : D := (.sl [[(lI .i64 4), (lS [105, 58, 101]), (lI .u8 9), lE, lZ, (lI .i64 0), lE, lN, lN, lZ, lE, lF, lN, lN, lN, (lI .i64 0), lF, lF, lZ, (lI .i64 0), lE, lN, lN, lZ, lE, lF, lE, lF, lN, lF, lF]] .none)
def ld7 : D := (.sl [[(lI .i64 2), (lS [105, 58, 99]), (lI .u8 8), lE, lZ, (lI .i64 0), lE, lN, lN, lZ, lE, lF, lN, lN, ld5, (lI .i64 0), lF, lF, lZ, (lI .i64 0), lE, lN, lN, lZ, lE, lF, lE, (.bool .true), ld6, lF, lF], [(lI .i64 5), (lS [105, 58, 102]), (lI .u8 9), lE, lZ, (lI .i64 0), lE, lN, lN, lZ, lE, lF, lN, lN, lN, (lI .i64 0), lF, lF, lZ, (lI .i64 0), lE, lN, lN, lZ, lE, lF, lE, lF, lN, lF, lF]] .none)
def ld8 : D := (.sl [[(lI .i64 1), (lS [105, 58, 98]), (lI .u8 1), lE, lZ, (lI .i64 0), lE, lN, lN, lZ, lE, lF, lN, lN, ld7, (lI .i64 0), lF, lF, lZ, (lI .i64 0), lE, lN, lN, lZ, lE, lF, lE, lF, lN, lF, lF], [(lI .i64 2), (lS [105, 58, 99]), (lI .u8 8), lE, lZ, (lI .i64 0), lE, lN, lN, lZ, lE, lF, lN, lN, ld5, (lI .i64 0), lF, lF, lZ, (lI .i64 0), lE, lN, lN, lZ, lE, lF, lE, (.bool .true), ld6, lF, lF], [(lI .i64 3), (lS [105, 58, 100]), (lI .u8 1), lE, lZ, (lI .i64 0), lE, lN, lN, lZ, lE, lF, lN, lN, lN, (lI .i64 0), lF, lF, lZ, (lI .i64 0), lE, lN, lN, lZ, lE, lF, lE, lF, lN, lF, lF], [(lI .i64 4), (lS [105, 58, 101]), (lI .u8 9), lE, lZ, (lI .i64 0), lE, lN, lN, lZ, lE, lF, lN, lN, lN, (lI .i64 0), lF, lF, lZ, (lI .i64 0), lE, lN, lN, lZ, lE, lF, lE, lF, lN, lF, lF], [(lI .i64 5), (lS [105, 58, 102]), (lI .u8 9), lE, lZ, (lI .i64 0), lE, lN, lN, lZ, lE, lF, lN, lN, lN, (lI .i64 0), lF, lF, lZ, (lI .i64 0), lE, lN, lN, lZ, lE, lF, lE, lF, lN, lF, lF]] .none)
def ld9 : D := (.sl [[(lI .i64 2), (lS [105, 58, 99]), (lI .u8 4), lE, lZ, (lI .i64 0), lE, lN, lN, lZ, lE, lF, lN, lN, lN, (lI .i64 0), lF, lF, lZ, (lI .i64 0), lE, lN, lN, lZ, lE, lF, lE, lF, lN, lF, lF], [(lI .i64 5), (lS [105, 58, 102]), (lI .u8 9), lE, lZ, (lI .i64 0), lE, lN, lN, lZ, lE, lF, lN, lN, lN, (lI .i64 0), lF, lF, lZ, (lI .i64 0), lE, lN, lN, lZ, lE, lF, lE, lF, lN, lF, lF]] .none)
def aeM : PV := (.agg [(.d (lI .i64 1)), (.d (lS [105, 58, 98])), (.d (lI .u8 1)), (.d lE), (.d lZ), (.d (lI .i64 0)), (.d lE), (.d lN), (.d lN), (.d lZ), (.d lE), (.d lF), (.d lN), (.d lN), (.d ld9), (.d (lI .i64 0)), (.d lF), (.d lF), (.d lZ), (.d (lI .i64 0)), (.d lE), (.d lN), (.d lN), (.d lZ), (.d lE), (.d lF), (.d lE), (.d lF), (.d lN), (.d lF), (.d lF)])
def agS : D := (.sl [[(lI .i64 1), (lS [105, 58, 98]), (lI .u8 1), lE, lZ, (lI .i64 0), lE, lN, lN, lZ, lE, lF, lN, lN, ld9, (lI .i64 0), lF, lF, lZ, (lI .i64 0), lE, lN, lN, lZ, lE, lF, lE, lF, lN, lF, lF], [(lI .i64 2), (lS [105, 58, 99]), (lI .u8 4), lE, lZ, (lI .i64 0), lE, lN, lN, lZ, lE, lF, lN, lN, lN, (lI .i64 0), lF, lF, lZ, (lI .i64 0), lE, lN, lN, lZ, lE, lF, lE, lF, lN, lF, lF], [(lI .i64 5), (lS [105, 58, 102]), (lI .u8 9), lE, lZ, (lI .i64 0), lE, lN, lN, lZ, lE, lF, lN, lN, lN, (lI .i64 0), lF, lF, lZ, (lI .i64 0), lE, lN, lN, lZ, lE, lF, lE, lF, lN, lF, lF]] .none)
def aeN : PV := (.agg [(.d (lI .i64 2)), (.d (lS [105, 58, 99])), (.d (lI .u8 4)), (.d lE), (.d lZ), (.d (lI .i64 0)), (.d lE), (.d lO), (.d lO), (.d lZ), (.d lE), (.d lF), (.d lO), (.d lO), (.d lO), (.d (lI .i64 0)), (.d lF), (.d lF), (.d lZ), (.d (lI .i64 0)), (.d lE), (.d lO), (.d lO), (.d lZ), (.d lE), (.d lF), (.d lE), (.d lF), (.d lO), (.d lF), (.d lF)])
def agT : PV := (.agg [(.d (lI .i64 4)), (.d (lS [105, 58, 101])), (.d (lI .u8 9)), (.d lE), (.d lZ), (.d (lI .i64 0)), (.d lE), (.d lN), (.d lN), (.d lZ), (.d lE), (.d lF), (.d lN), (.d lN), (.d lN), (.d (lI .i64 0)), (.d lF), (.d lF), (.d lZ), (.d (lI .i64 0)), (.d lE), (.d lN), (.d lN), (.d lZ), (.d lE), (.d lF), (.d lE), (.d lF), (.d lN), (.d lF), (.d lF)])
def agU : D := (.sl [[(lI .i64 1), (lS [105, 58, 98]), (lI .u8 1), lE, lZ, (lI .i64 0), lE, lN, lN, lZ, lE, lF, lN, lN, ld7, (lI .i64 0), lF, lF, lZ, (lI .i64 0), lE, lN, lN, lZ, lE, lF, lE, lF, lN, lF, lF], [(lI .i64 2), (lS [105, 58, 99]), (lI .u8 8), lE, lZ, (lI .i64 0), lE, lN, lN, lZ, lE, lF, lN, lN, ld5, (lI .i64 0), lF, lF, lZ, (lI .i64 0), lE, lN, lN, lZ, lE, lF, lE, (.bool .true), ld6, lF, lF], [(lI .i64 4), (lS [105, 58, 101]), (lI .u8 9), lE, lZ, (lI .i64 0), lE, lN, lN, lZ, lE, lF, lN, lN, lN, (lI .i64 0), lF, lF, lZ, (lI .i64 0), lE, lN, lN, lZ, lE, lF, lE, lF, lN, lF, lF]] .none)
def agV : PV := (.agg [(.d (lI .i64 3)), (.d (lS [105, 58, 100])), (.d (lI .u8 1)), (.d lE), (.d lZ), (.d (lI .i64 0)), (.d lE), (.d lO), (.d lO), (.d lZ), (.d lE), (.d lF), (.d lO), (.d lO), (.d lO), (.d (lI .i64 0)), (.d lF), (.d lF), (.d lZ), (.d (lI .i64 0)), (.d lE), (.d lO), (.d lO), (.d lZ), (.d lE), (.d lF), (.d lE), (.d lF), (.d lO), (.d lF), (.d lF)])
def agW : PV := (.agg [(.d (lI .i64 2)), (.d (lS [105, 58, 99])), (.d (lI .u8 8)), (.d lE), (.d lZ), (.d (lI .i64 0)), (.d lE), (.d lO), (.d lO), (.d lZ), (.d lE), (.d lF), (.d lO), (.d lO), (.d ld0), (.d (lI .i64 0)), (.d lF), (.d lF), (.d lZ), (.d (lI .i64 0)), (.d lE), (.d lO), (.d lO), (.d lZ), (.d lE), (.d lF), (.d lE), (.d lF), (.d lO), (.d lF), (.d lF)])
def agX : PV := (.agg [(.d (lI .i64 4)), (.d (lS [105, 58, 101])), (.d (lI .u8 9)), (.d lE), (.d lZ), (.d (lI .i64 0)), (.d lE), (.d lO), (.d lO), (.d lZ), (.d lE), (.d lF), (.d lO), (.d lO), (.d lO), (.d (lI .i64 0)), (.d lF), (.d lF), (.d lZ), (.d (lI .i64 0)), (.d lE), (.d lO), (.d lO), (.d lZ), (.d lE), (.d lF), (.d lE), (.d lF), (.d lO), (.d lF), (.d lF)])
def agY : PV := (.agg [(.d (lI .i64 5)), (.d (lS [105, 58, 102])), (.d (lI .u8 9)), (.d lE), (.d lZ), (.d (lI .i64 0)), (.d lE), (.d lO), (.d lO), (.d lZ), (.d lE), (.d lF), (.d lO), (.d lO), (.d lO), (.d (lI .i64 0)), (.d lF), (.d lF), (.d lZ), (.d (lI .i64 0)), (.d lE), (.d lO), (.d lO), (.d lZ), (.d lE), (.d lF), (.d lE), (.d lF), (.d lO), (.d lF), (.d lF)])
def agZ : D := (.sl [[(lI .i64 3), (lS [105, 58, 100]), (lI .u8 1), lE, lZ, (lI .i64 0), lE, lN, lN, lZ, lE, lF, lN, lN, lN, (lI .i64 0), lF, lF, lZ, (lI .i64 0), lE, lN, lN, lZ, lE, lF, lE, lF, lN, lF, lF], [(lI .i64 4), (lS [105, 58, 101]), (lI .u8 9), lE, lZ, (lI .i64 0), lE, lN, lN, lZ, lE, lF, lN, lN, lN, (lI .i64 0), lF, lF, lZ, (lI .i64 0), lE, lN, lN, lZ, lE, lF, lE, lF, lN, lF, lF], [(lI .i64 2), (lS [105, 58, 99]), (lI .u8 8), lE, lZ, (lI .i64 0), lE, lN, lN, lZ, lE, lF, lN, lN, ld5, (lI .i64 0), lF, lF, lZ, (lI .i64 0), lE, lN, lN, lZ, lE, lF, lE, (.bool .true), ld6, lF, lF], [(lI .i64 5), (lS [105, 58, 102]), (lI .u8 9), lE, lZ, (lI .i64 0), lE, lN, lN, lZ, lE, lF, lN, lN, lN, (lI .i64 0), lF, lF, lZ, (lI .i64 0), lE, lN, lN, lZ, lE, lF, lE, lF, lN, lF, lF], [(lI .i64 1), (lS [105, 58, 98]), (lI .u8 1), lE, lZ, (lI .i64 0), lE, lN, lN, lZ, lE, lF, lN, lN, ld7, (lI .i64 0), lF, lF, lZ, (lI .i64 0), lE, lN, lN, lZ, lE, lF, lE, lF, lN, lF, lF]] .none)
def L9 : List (List PV × PV) := [([lp3], (.d (.bool .true))), ([lp4], (.d lF))]
theorem aeO : ∀ p ∈ L9, jZ p.1 = true ∧ oN p.2 = true ∧ nN S0 (fG Vk) (fG Vl) 5000 100 9 p.1 [] = some (p.2, []) := by
 intro p hp
 simp only [L9, List.mem_cons, List.not_mem_nil, or_false] at hp
 rcases hp with rfl | rfl
 ·exact ⟨rfl, rfl, by kernel_rfl⟩
 ·exact ⟨rfl, rfl, by kernel_rfl⟩
def L10 : List (List PV × PV) := [([lp3], (.d ld8)), ([aeM], (.d agS))]
theorem ab9 : ∀ p ∈ L10, jZ p.1 = true ∧ oN p.2 = true ∧ nN S0 (fG Vk) (fG Vl) 5000 100 10 p.1 [] = some (p.2, []) := by
 intro p hp
 simp only [L10, List.mem_cons, List.not_mem_nil, or_false] at hp
 rcases hp with rfl | rfl
 ·exact ⟨rfl, rfl, by kernel_rfl⟩
 ·exact ⟨rfl, rfl, by kernel_rfl⟩
def L11 : List (List PV × PV) := [([lp3, aeN], aeM)]
theorem acd : ∀ p ∈ L11, jZ p.1 = true ∧ oN p.2 = true ∧ nN S0 (fG Vk) (fG Vl) 5000 100 11 p.1 [] = some (p.2, []) := by
 intro p hp
 simp only [L11, List.mem_cons, List.not_mem_nil, or_false] at hp
 rcases hp with rfl
 ·exact ⟨rfl, rfl, by kernel_rfl⟩
def L13 : List (List PV × PV) := [([lp3, (.d (lI .i64 4))], (.pG [agT, (.d (.bool .true))])), ([lp3, (.d (lI .i64 6))], (.pG [lp4, (.d lF)]))]
theorem ace : ∀ p ∈ L13, jZ p.1 = true ∧ oN p.2 = true ∧ nN S0 (fG Vk) (fG Vl) 5000 100 13 p.1 [] = some (p.2, []) := by
 intro p hp
 simp only [L13, List.mem_cons, List.not_mem_nil, or_false] at hp
 rcases hp with rfl | rfl
 ·exact ⟨rfl, rfl, by kernel_rfl⟩
 ·exact ⟨rfl, rfl, by kernel_rfl⟩
def L14 : List (List PV × PV) := [([lp3, (.d (lI .i64 4))], (.d agU))]
theorem acf : ∀ p ∈ L14, jZ p.1 = true ∧ oN p.2 = true ∧ nN S0 (fG Vk) (fG Vl) 5000 100 14 p.1 [] = some (p.2, []) := by
 intro p hp
 simp only [L14, List.mem_cons, List.not_mem_nil, or_false] at hp
 rcases hp with rfl
 ·exact ⟨rfl, rfl, by kernel_rfl⟩
def L19 : List (List PV × PV) := [([(.d (lI .i64 3)), (.d (lI .u8 1)), (.d lO)], agV), ([(.d (lI .i64 2)), (.d (lI .u8 8)), (.d ld0)], agW), ([(.d (lI .i64 4)), (.d (lI .u8 9)), (.d lO)], agX), ([(.d (lI .i64 5)), (.d (lI .u8 9)), (.d lO)], agY), ([(.d (lI .i64 1)), (.d (lI .u8 1)), (.d ld2)], lp3), ([(.d (lI .i64 2)), (.d (lI .u8 4)), (.d lO)], aeN)]
theorem acg : ∀ p ∈ L19, jZ p.1 = true ∧ oN p.2 = true ∧ nN S0 (fG Vk) (fG Vl) 5000 100 19 p.1 [] = some (p.2, []) := by
 intro p hp
 simp only [L19, List.mem_cons, List.not_mem_nil, or_false] at hp
 rcases hp with rfl | rfl | rfl | rfl | rfl | rfl
 ·exact ⟨rfl, rfl, by kernel_rfl⟩
 ·exact ⟨rfl, rfl, by kernel_rfl⟩
 ·exact ⟨rfl, rfl, by kernel_rfl⟩
 ·exact ⟨rfl, rfl, by kernel_rfl⟩
 ·exact ⟨rfl, rfl, by kernel_rfl⟩
 ·exact ⟨rfl, rfl, by kernel_rfl⟩
def L22 : List (List PV × PV) := [([lp3], (.d agZ))]
theorem ach : ∀ p ∈ L22, jZ p.1 = true ∧ oN p.2 = true ∧ nN S0 (fG Vk) (fG Vl) 5000 100 22 p.1 [] = some (p.2, []) := by
 intro p hp
 simp only [L22, List.mem_cons, List.not_mem_nil, or_false] at hp
 rcases hp with rfl
 ·exact ⟨rfl, rfl, by kernel_rfl⟩
noncomputable def S1 : X.Sys := { S0 with foreign := fG [(9, (IL L9)), (10, (IL L10)), (11, (IL L11)), (13, (IL L13)), (14, (IL L14)), (19, (IL L19)), (22, (IL L22))] }
theorem YI : pW Try.prog S1 where
 tab := mZ.tab
 mixed := mZ.mixed
 fn := mZ.fn
 sites := sI (fun _ => rfl) (by
  intro p hp
  simp only [List.mem_cons, List.not_mem_nil, or_false] at hp
  rcases hp with rfl | rfl | rfl | rfl | rfl | rfl | rfl | rfl | rfl | rfl | rfl | rfl | rfl | rfl | rfl | rfl | rfl | rfl | rfl | rfl | rfl | rfl | rfl | rfl | rfl | rfl | rfl | rfl | rfl | rfl | rfl | rfl | rfl | rfl | rfl | rfl | rfl | rfl | rfl | rfl | rfl | rfl | rfl | rfl | rfl | rfl | rfl | rfl | rfl | rfl | rfl | rfl | rfl | rfl | rfl | rfl | rfl | rfl | rfl | rfl | rfl | rfl | rfl | rfl
  iterate 14 exact .inl (by kernel_rfl)
  iterate 1 exact .inr ⟨by kernel_rfl, by kernel_rfl⟩
  iterate 8 exact .inl (by kernel_rfl)
  iterate 1 exact .inr ⟨by kernel_rfl, by kernel_rfl⟩
  iterate 40 exact .inl (by kernel_rfl))
 site := fun g q h => vN (F := PS) (L := Dv) (by
  intro p hp
  simp only [Dv, List.mem_cons, List.not_mem_nil, or_false] at hp
  first
  | exact hp.elim
  | (subst hp; exact ⟨by kernel_rfl, by kernel_rfl, by kernel_rfl⟩)
  | (rcases hp with rfl | rfl | rfl <;> exact ⟨by kernel_rfl, by kernel_rfl, by kernel_rfl⟩)) g q h
 foreign := nH (by
  intro p hp
  simp only [List.mem_cons, List.not_mem_nil, or_false] at hp
  rcases hp with rfl | rfl | rfl | rfl | rfl | rfl | rfl
  ·exact jE mZ uX uY aeO
  ·exact jE mZ uX uY ab9
  ·exact jE mZ uX uY acd
  ·exact jE mZ uX uY ace
  ·exact jE mZ uX uY acf
  ·exact jE mZ uX uY acg
  ·exact jE mZ uX uY ach)
theorem YJ : RD S1 (fG Vk) := uX
theorem YK : RF S1 (fG Vl) := uY
theorem YL : nN S1 (fG Vk) (fG Vl) 5000 100 7 [] [] = some (.d (.bool true), []) := by kernel_rfl
end Go.Proofs.Ytedfkehkcaaplaa
