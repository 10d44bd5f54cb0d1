/- Whatever is handed in, tapestry/tapestrylaw13.CellsSay answers true, and what it read reads behind the call as it read before: the row cellsSayRow, with no condition ahead of it. Road: an interpreter over the loaded code, sound once for all programs; functions on plain data that it is shown to compute; a plain law of these. -/
import Derived.Test.YtipkggkbldgmjaaGreatCYL3
import Derived.Test.YtipkggkbldgmjaaGreatCYK
import Derived.ProofKit
import Derived.JoinedCond
import Derived.Deep.CondSized
namespace Go.Proofs.YtipkggkbldgmjaaGreat
open Go Go.X Go.ChangeShapes Go.WideShapes Go.ChangeAt Go.RowKit
set_option maxRecDepth 100000
theorem apj : vH Tryz.prog S where
 tab := Md
 mixed := by kernel_rfl
 fn := Ef (by
  intro p hp
  simp only [List.mem_cons, List.not_mem_nil, or_false] at hp
  rcases hp with rfl | rfl | rfl | rfl | rfl | rfl | rfl | rfl | rfl | rfl | rfl | rfl | rfl | rfl | rfl | rfl | rfl | rfl | rfl | rfl | rfl | rfl | rfl | rfl | rfl | rfl | rfl | rfl | rfl | rfl | rfl | rfl | rfl | rfl | rfl | rfl | rfl | rfl | rfl | rfl | rfl | rfl | rfl | rfl | rfl | rfl | rfl | rfl | rfl | rfl | rfl | rfl | rfl | rfl | rfl | rfl | rfl | rfl | rfl | rfl | rfl | rfl | rfl | rfl | rfl | rfl | rfl | rfl | rfl | rfl | rfl | rfl | rfl | rfl | rfl | rfl | rfl | rfl | rfl | rfl | rfl | rfl | rfl | rfl | rfl | rfl | rfl | rfl | rfl | rfl | rfl | rfl | rfl | rfl | rfl | rfl
  ·exact ⟨Tryz.func3, by kernel_rfl⟩
  ·exact ⟨Tryz.func4, by kernel_rfl⟩
  ·exact ⟨Tryz.func5, by kernel_rfl⟩
  ·exact ⟨Tryz.func6, by kernel_rfl⟩
  ·exact ⟨Tryz.func7, by kernel_rfl⟩
  ·exact ⟨Tryz.func8, by kernel_rfl⟩
  ·exact ⟨Tryz.func9, by kernel_rfl⟩
  ·exact ⟨Tryz.func10, by kernel_rfl⟩
  ·exact ⟨Tryz.func11, by kernel_rfl⟩
  ·exact ⟨Tryz.func12, by kernel_rfl⟩
  ·exact ⟨Tryz.func13, by kernel_rfl⟩
  ·exact ⟨Tryz.func14, by kernel_rfl⟩
  ·exact ⟨Tryz.func16, by kernel_rfl⟩
  ·exact ⟨Tryz.func17, by kernel_rfl⟩
  ·exact ⟨Tryz.func18, by kernel_rfl⟩
  ·exact ⟨Tryz.func19, by kernel_rfl⟩
  ·exact ⟨Tryz.func20, by kernel_rfl⟩
  ·exact ⟨Tryz.func21, by kernel_rfl⟩
  ·exact ⟨Tryz.func22, by kernel_rfl⟩
  ·exact ⟨Tryz.func23, by kernel_rfl⟩
  ·exact ⟨Tryz.func24, by kernel_rfl⟩
  ·exact ⟨Tryz.func25, by kernel_rfl⟩
  ·exact ⟨Tryz.func26, by kernel_rfl⟩
  ·exact ⟨Tryz.func27, by kernel_rfl⟩
  ·exact ⟨Tryz.func28, by kernel_rfl⟩
  ·exact ⟨Tryz.func29, by kernel_rfl⟩
  ·exact ⟨Tryz.func30, by kernel_rfl⟩
  ·exact ⟨Tryz.func34, by kernel_rfl⟩
  ·exact ⟨Tryz.func35, by kernel_rfl⟩
  ·exact ⟨Tryz.func36, by kernel_rfl⟩
  ·exact ⟨Tryz.func37, by kernel_rfl⟩
  ·exact ⟨Tryz.func38, by kernel_rfl⟩
  ·exact ⟨Tryz.func39, by kernel_rfl⟩
  ·exact ⟨Tryz.func40, by kernel_rfl⟩
  ·exact ⟨Tryz.func41, by kernel_rfl⟩
  ·exact ⟨Tryz.func42, by kernel_rfl⟩
  ·exact ⟨Tryz.func43, by kernel_rfl⟩
  ·exact ⟨Tryz.func44, by kernel_rfl⟩
  ·exact ⟨Tryz.func45, by kernel_rfl⟩
  ·exact ⟨Tryz.func46, by kernel_rfl⟩
  ·exact ⟨Tryz.func47, by kernel_rfl⟩
  ·exact ⟨Tryz.func48, by kernel_rfl⟩
  ·exact ⟨Tryz.func49, by kernel_rfl⟩
  ·exact ⟨Tryz.func50, by kernel_rfl⟩
  ·exact ⟨Tryz.func51, by kernel_rfl⟩
  ·exact ⟨Tryz.func52, by kernel_rfl⟩
  ·exact ⟨Tryz.func53, by kernel_rfl⟩
  ·exact ⟨Tryz.func54, by kernel_rfl⟩
  ·exact ⟨Tryz.func55, by kernel_rfl⟩
  ·exact ⟨Tryz.func56, by kernel_rfl⟩
  ·exact ⟨Tryz.func57, by kernel_rfl⟩
  ·exact ⟨Tryz.func58, by kernel_rfl⟩
  ·exact ⟨Tryz.func59, by kernel_rfl⟩
  ·exact ⟨Tryz.func60, by kernel_rfl⟩
  ·exact ⟨Tryz.func61, by kernel_rfl⟩
  ·exact ⟨Tryz.func62, by kernel_rfl⟩
  ·exact ⟨Tryz.func63, by kernel_rfl⟩
  ·exact ⟨Tryz.func65, by kernel_rfl⟩
  ·exact ⟨Tryz.func66, by kernel_rfl⟩
  ·exact ⟨Tryz.func67, by kernel_rfl⟩
  ·exact ⟨Tryz.func68, by kernel_rfl⟩
  ·exact ⟨Tryz.func69, by kernel_rfl⟩
  ·exact ⟨Tryz.func70, by kernel_rfl⟩
  ·exact ⟨Tryz.func71, by kernel_rfl⟩
  ·exact ⟨Tryz.func72, by kernel_rfl⟩
  ·exact ⟨Tryz.func73, by kernel_rfl⟩
  ·exact ⟨Tryz.func74, by kernel_rfl⟩
  ·exact ⟨Tryz.func75, by kernel_rfl⟩
  ·exact ⟨Tryz.func76, by kernel_rfl⟩
  ·exact ⟨Tryz.func77, by kernel_rfl⟩
  ·exact ⟨Tryz.func78, by kernel_rfl⟩
  ·exact ⟨Tryz.func79, by kernel_rfl⟩
  ·exact ⟨Tryz.func80, by kernel_rfl⟩
  ·exact ⟨Tryz.func81, by kernel_rfl⟩
  ·exact ⟨Tryz.func82, by kernel_rfl⟩
  ·exact ⟨Tryz.func86, by kernel_rfl⟩
  ·exact ⟨Tryz.func87, by kernel_rfl⟩
  ·exact ⟨Tryz.func88, by kernel_rfl⟩
  ·exact ⟨Tryz.func89, by kernel_rfl⟩
  ·exact ⟨Tryz.func90, by kernel_rfl⟩
  ·exact ⟨Tryz.func91, by kernel_rfl⟩
  ·exact ⟨Tryz.func92, by kernel_rfl⟩
  ·exact ⟨Tryz.func93, by kernel_rfl⟩
  ·exact ⟨Tryz.func94, by kernel_rfl⟩
  ·exact ⟨Tryz.func95, by kernel_rfl⟩
  ·exact ⟨Tryz.func96, by kernel_rfl⟩
  ·exact ⟨Tryz.func98, by kernel_rfl⟩
  ·exact ⟨Tryz.func99, by kernel_rfl⟩
  ·exact ⟨Tryz.func100, by kernel_rfl⟩
  ·exact ⟨Tryz.func101, by kernel_rfl⟩
  ·exact ⟨Tryz.func102, by kernel_rfl⟩
  ·exact ⟨Tryz.func103, by kernel_rfl⟩
  ·exact ⟨Tryz.func104, by kernel_rfl⟩
  ·exact ⟨Tryz.func105, by kernel_rfl⟩
  ·exact ⟨Tryz.func106, by kernel_rfl⟩
  ·exact ⟨Tryz.func107, by kernel_rfl⟩)
 sites := zQ (fun _ => rfl) (by
  intro p hp
  simp only [List.mem_cons, List.not_mem_nil, or_false] at hp
  rcases hp with rfl | rfl | rfl | rfl | rfl | rfl | rfl | rfl | rfl | rfl | rfl | rfl | rfl | rfl | rfl | rfl | rfl | rfl | rfl | rfl | rfl | rfl | rfl | rfl | rfl | rfl | rfl | rfl | rfl | rfl | rfl | rfl | rfl | rfl | rfl | rfl | rfl | rfl | rfl | rfl | rfl | rfl | rfl | rfl | rfl | rfl | rfl | rfl | rfl | rfl | rfl | rfl | rfl | rfl | rfl | rfl | rfl | rfl | rfl | rfl | rfl | rfl | rfl | rfl | rfl | rfl | rfl | rfl | rfl | rfl | rfl | rfl | rfl | rfl | rfl | rfl | rfl | rfl | rfl | rfl | rfl | rfl | rfl | rfl | rfl | rfl | rfl | rfl | rfl | rfl | rfl | rfl | rfl | rfl | rfl | rfl
  ·exact .inl (by kernel_rfl)
  ·exact .inl (by kernel_rfl)
  ·exact .inl (by kernel_rfl)
  ·exact .inl (by kernel_rfl)
  ·exact .inl (by kernel_rfl)
  ·exact .inl (by kernel_rfl)
  ·exact .inl (by kernel_rfl)
  ·exact .inl (by kernel_rfl)
  ·exact .inl (by kernel_rfl)
  ·exact .inl (by kernel_rfl)
  ·exact .inl (by kernel_rfl)
  ·exact .inl (by kernel_rfl)
  ·exact .inl (by kernel_rfl)
  ·exact .inl (by kernel_rfl)
  ·exact .inl (by kernel_rfl)
  ·exact .inl (by kernel_rfl)
  ·exact .inl (by kernel_rfl)
  ·exact .inl (by kernel_rfl)
  ·exact .inl (by kernel_rfl)
  ·exact .inl (by kernel_rfl)
  ·exact .inl (by kernel_rfl)
  ·exact .inl (by kernel_rfl)
  ·exact .inl (by kernel_rfl)
  ·exact .inl (by kernel_rfl)
  ·exact .inl (by kernel_rfl)
  ·exact .inl (by kernel_rfl)
  ·exact .inl (by kernel_rfl)
  ·exact .inl (by kernel_rfl)
  ·exact .inl (by kernel_rfl)
  ·exact .inl (by kernel_rfl)
  ·exact .inl (by kernel_rfl)
  ·exact .inl (by kernel_rfl)
  ·exact .inl (by kernel_rfl)
  ·exact .inl (by kernel_rfl)
  ·exact .inl (by kernel_rfl)
  ·exact .inl (by kernel_rfl)
  ·exact .inl (by kernel_rfl)
  ·exact .inl (by kernel_rfl)
  ·exact .inl (by kernel_rfl)
  ·exact .inl (by kernel_rfl)
  ·exact .inl (by kernel_rfl)
  ·exact .inl (by kernel_rfl)
  ·exact .inl (by kernel_rfl)
  ·exact .inl (by kernel_rfl)
  ·exact .inl (by kernel_rfl)
  ·exact .inl (by kernel_rfl)
  ·exact .inl (by kernel_rfl)
  ·exact .inl (by kernel_rfl)
  ·exact .inl (by kernel_rfl)
  ·exact .inl (by kernel_rfl)
  ·exact .inl (by kernel_rfl)
  ·exact .inl (by kernel_rfl)
  ·exact .inl (by kernel_rfl)
  ·exact .inl (by kernel_rfl)
  ·exact .inl (by kernel_rfl)
  ·exact .inl (by kernel_rfl)
  ·exact .inl (by kernel_rfl)
  ·exact .inl (by kernel_rfl)
  ·exact .inl (by kernel_rfl)
  ·exact .inl (by kernel_rfl)
  ·exact .inl (by kernel_rfl)
  ·exact .inl (by kernel_rfl)
  ·exact .inl (by kernel_rfl)
  ·exact .inl (by kernel_rfl)
  ·exact .inl (by kernel_rfl)
  ·exact .inl (by kernel_rfl)
  ·exact .inl (by kernel_rfl)
  ·exact .inl (by kernel_rfl)
  ·exact .inl (by kernel_rfl)
  ·exact .inl (by kernel_rfl)
  ·exact .inl (by kernel_rfl)
  ·exact .inl (by kernel_rfl)
  ·exact .inl (by kernel_rfl)
  ·exact .inl (by kernel_rfl)
  ·exact .inl (by kernel_rfl)
  ·exact .inl (by kernel_rfl)
  ·exact .inl (by kernel_rfl)
  ·exact .inl (by kernel_rfl)
  ·exact .inl (by kernel_rfl)
  ·exact .inl (by kernel_rfl)
  ·exact .inl (by kernel_rfl)
  ·exact .inl (by kernel_rfl)
  ·exact .inl (by kernel_rfl)
  ·exact .inl (by kernel_rfl)
  ·exact .inl (by kernel_rfl)
  ·exact .inl (by kernel_rfl)
  ·exact .inl (by kernel_rfl)
  ·exact .inl (by kernel_rfl)
  ·exact .inl (by kernel_rfl)
  ·exact .inl (by kernel_rfl)
  ·exact .inl (by kernel_rfl)
  ·exact .inl (by kernel_rfl)
  ·exact .inl (by kernel_rfl)
  ·exact .inl (by kernel_rfl)
  ·exact .inl (by kernel_rfl)
  ·exact .inl (by kernel_rfl))
 site := fun g q h => Eh (F := abw) (L := abx) (by
  intro p hp
  cases hp) g q h
 foreign := qL (by
  intro p hp
  simp only [List.mem_cons, List.not_mem_nil, or_false] at hp
  rcases hp with rfl
  ·exact IE agP alu alv rfl acJ)
theorem Tryz.own : ownKnob Tryz.prog.godebug = none := by kernel_rfl
theorem Tryz.laidOut : laidOutB Tryz.prog = true := by kernel_rfl
theorem yE {H : Type} : ∀ l : List (DataW H), Rows.uptoBulkAll l = (l.map Rows.uptoBulk).sum
 | [] => by simp [Rows.uptoBulkAll]
 | x :: r => by rw [Rows.uptoBulkAll, yE r]; simp
theorem ajd {H : Type} : qZ (Rows.uptoBulk (H := H)) where
 one := fun d => by cases d with
  | lit l => cases l <;> simp [Rows.uptoBulk]
  | _ => simp [Rows.uptoBulk]
 str := fun s => by simp [Rows.uptoBulk]
 slice := fun e s => by rw [Rows.uptoBulk, yE, yE]; omega
 agg := fun p => by rw [Rows.uptoBulk, yE]; omega
theorem af7 {H : Type} {dd gs : List (DataW H)} (h : Rows.uptoSmall H (dd ++ gs) = true) : (dd.map Rows.uptoBulk).sum ≤ 1048576 := by
 have h1 : Rows.uptoBulkAll (dd ++ gs) ≤ 1048576 := of_decide_eq_true h
 rw [yE, List.map_append, List.sum_append] at h1
 omega
theorem cellsSay_lifted (os : Os) (started : os.Started) (H : Type) (enc : TypeId × Go.Value → H) (F : Stop.Interp) :
  ReturnsInHanded {} Tryz.checked os 3 .any ((Rows.OpenSpec.upto Rows.cellsSaySpec).pre6 enc Tryz.prog Tryz.f3 Rows.cellsSayUptoRow.domain false) (((Rows.OpenSpec.upto Rows.cellsSaySpec).at F).post enc Tryz.prog Tryz.f3 false true false false) := by
 refine returnsInHanded_of_cond_sized (C := Tryz.checked) (s := Rows.OpenSpec.upto Rows.cellsSaySpec) (k := Rows.uptoSmall) rfl Tryz.own started (by kernel_rfl) Tryz.func3
  (OpenSpec.witness (enc := enc) (C := Tryz.checked) (s := Rows.OpenSpec.upto Rows.cellsSaySpec) (k := Rows.uptoSmall) rfl false ⟨#[], #[.slice none 0 0, .slice none 0 0, .string ByteArray.empty], []⟩ 8 (by kernel_rfl) (by kernel_rfl) (by kernel_rfl)
   (x := ([.nil, .nil, .lit (.string [])], [], [])) (by kernel_rfl) rfl (by kernel_rfl)) ?_
 intro W base args dd gs before hval hW _ hk hz _
 exact abj apj (L := [22, 40, 37, 9, 29, 24, 2, 25, 26, 67, 27, 4, 38, 76, 69, 74, 70, 71, 72]) (by kernel_rfl) Tryz.laidOut (f := 3) (fn := Tryz.f3) (ts := [22, 22, 9]) rfl (by decide) (by
   intro t ht
   simp only [List.mem_cons, List.not_mem_nil, or_false] at ht
   rcases ht with rfl | rfl | rfl <;> exact ⟨by kernel_rfl, of_decide_eq_true (by kernel_rfl)⟩) (rt := 4) rfl (by kernel_rfl) (s := Rows.cellsSaySpec) rfl hval hW hz
  (fun d hd => by
   match d, hd with
   | [_, _, _], _ => exact ⟨rfl, rfl, rfl⟩) (fun q hq => by cases hq) (by kernel_rfl) ajd (af7 hk) atp
theorem cellsSay_holds : Rows.CellsSayUptoSaid :=
 OpenClaim.holds_of_cond 3 Tryz.f3 rfl rfl rfl rfl rfl rfl rfl ⟨rfl, rfl, rfl, rfl, rfl⟩ rfl rfl rfl rfl rfl (by kernel_rfl) Tryz.func3 (by kernel_rfl)
  (of_decide_eq_true (by kernel_rfl)) (by unfold Func.isWrapper; first | (rw [if_pos (by decide +kernel)]; kernel_rfl) | (rw [if_neg (by decide +kernel)]; exact ⟨rfl, rfl⟩))
  (fun os started H enc _ F => cellsSay_lifted os started H enc F)
#print axioms cellsSay_holds
end Go.Proofs.YtipkggkbldgmjaaGreat
