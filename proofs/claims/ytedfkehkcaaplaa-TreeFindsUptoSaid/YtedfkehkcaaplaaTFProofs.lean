/- T -/
import Derived.Test.YtedfkehkcaaplaaTFL3
import Derived.Test.YtedfkehkcaaplaaTFK
import Derived.ProofKit
import Derived.JoinedCond
import Derived.Deep.CondSized
namespace Go.Proofs.Ytedfkehkcaaplaa
open Go Go.X Go.ChangeShapes Go.WideShapes Go.ChangeAt Go.RowKit
set_option maxRecDepth 100000
theorem adN : pW Try.prog S where
 tab := Gm
 mixed := by kernel_rfl
 fn := zL (by
  intro p hp
  simp only [List.mem_cons, List.not_mem_nil, or_false] at hp
  rcases hp with rfl | rfl | rfl | rfl | rfl | rfl | rfl | rfl | rfl | rfl | rfl | rfl | rfl | rfl | rfl | rfl | rfl | rfl | rfl | rfl | rfl | rfl | rfl | rfl | rfl | rfl | rfl | rfl | rfl | rfl | rfl | rfl | rfl | rfl | rfl | rfl | rfl | rfl | rfl | rfl | rfl | rfl | rfl | rfl | rfl | rfl | rfl | rfl | rfl | rfl | rfl | rfl | rfl | rfl | rfl | rfl | rfl | rfl | rfl | rfl | rfl | rfl | rfl | rfl | rfl | rfl | rfl | rfl | rfl | rfl | rfl | rfl | rfl | rfl | rfl | rfl | rfl | rfl | rfl | rfl | rfl | rfl | rfl | rfl | rfl | rfl | rfl | rfl | rfl
  ·exact ⟨Try.func4, by kernel_rfl⟩
  ·exact ⟨Try.func8, by kernel_rfl⟩
  ·exact ⟨Try.func9, by kernel_rfl⟩
  ·exact ⟨Try.func10, by kernel_rfl⟩
  ·exact ⟨Try.func12, by kernel_rfl⟩
  ·exact ⟨Try.func13, by kernel_rfl⟩
  ·exact ⟨Try.func14, by kernel_rfl⟩
  ·exact ⟨Try.func15, by kernel_rfl⟩
  ·exact ⟨Try.func16, by kernel_rfl⟩
  ·exact ⟨Try.func23, by kernel_rfl⟩
  ·exact ⟨Try.func24, by kernel_rfl⟩
  ·exact ⟨Try.func25, by kernel_rfl⟩
  ·exact ⟨Try.func26, by kernel_rfl⟩
  ·exact ⟨Try.func27, by kernel_rfl⟩
  ·exact ⟨Try.func28, by kernel_rfl⟩
  ·exact ⟨Try.func29, by kernel_rfl⟩
  ·exact ⟨Try.func30, by kernel_rfl⟩
  ·exact ⟨Try.func31, by kernel_rfl⟩
  ·exact ⟨Try.func32, by kernel_rfl⟩
  ·exact ⟨Try.func34, by kernel_rfl⟩
  ·exact ⟨Try.func36, by kernel_rfl⟩
  ·exact ⟨Try.func37, by kernel_rfl⟩
  ·exact ⟨Try.func38, by kernel_rfl⟩
  ·exact ⟨Try.func39, by kernel_rfl⟩
  ·exact ⟨Try.func40, by kernel_rfl⟩
  ·exact ⟨Try.func41, by kernel_rfl⟩
  ·exact ⟨Try.func42, by kernel_rfl⟩
  ·exact ⟨Try.func43, by kernel_rfl⟩
  ·exact ⟨Try.func44, by kernel_rfl⟩
  ·exact ⟨Try.func45, by kernel_rfl⟩
  ·exact ⟨Try.func46, by kernel_rfl⟩
  ·exact ⟨Try.func47, by kernel_rfl⟩
  ·exact ⟨Try.func48, by kernel_rfl⟩
  ·exact ⟨Try.func49, by kernel_rfl⟩
  ·exact ⟨Try.func57, by kernel_rfl⟩
  ·exact ⟨Try.func58, by kernel_rfl⟩
  ·exact ⟨Try.func59, by kernel_rfl⟩
  ·exact ⟨Try.func60, by kernel_rfl⟩
  ·exact ⟨Try.func61, by kernel_rfl⟩
  ·exact ⟨Try.func62, by kernel_rfl⟩
  ·exact ⟨Try.func63, by kernel_rfl⟩
  ·exact ⟨Try.func64, by kernel_rfl⟩
  ·exact ⟨Try.func65, by kernel_rfl⟩
  ·exact ⟨Try.func66, by kernel_rfl⟩
  ·exact ⟨Try.func67, by kernel_rfl⟩
  ·exact ⟨Try.func68, by kernel_rfl⟩
  ·exact ⟨Try.func69, by kernel_rfl⟩
  ·exact ⟨Try.func70, by kernel_rfl⟩
  ·exact ⟨Try.func71, by kernel_rfl⟩
  ·exact ⟨Try.func72, by kernel_rfl⟩
  ·exact ⟨Try.func73, by kernel_rfl⟩
  ·exact ⟨Try.func82, by kernel_rfl⟩
  ·exact ⟨Try.func83, by kernel_rfl⟩
  ·exact ⟨Try.func84, by kernel_rfl⟩
  ·exact ⟨Try.func85, by kernel_rfl⟩
  ·exact ⟨Try.func86, by kernel_rfl⟩
  ·exact ⟨Try.func87, by kernel_rfl⟩
  ·exact ⟨Try.func88, by kernel_rfl⟩
  ·exact ⟨Try.func89, by kernel_rfl⟩
  ·exact ⟨Try.func90, by kernel_rfl⟩
  ·exact ⟨Try.func91, by kernel_rfl⟩
  ·exact ⟨Try.func92, by kernel_rfl⟩
  ·exact ⟨Try.func93, by kernel_rfl⟩
  ·exact ⟨Try.func94, by kernel_rfl⟩
  ·exact ⟨Try.func97, by kernel_rfl⟩
  ·exact ⟨Try.func102, by kernel_rfl⟩
  ·exact ⟨Try.func103, by kernel_rfl⟩
  ·exact ⟨Try.func104, by kernel_rfl⟩
  ·exact ⟨Try.func105, by kernel_rfl⟩
  ·exact ⟨Try.func106, by kernel_rfl⟩
  ·exact ⟨Try.func107, by kernel_rfl⟩
  ·exact ⟨Try.func108, by kernel_rfl⟩
  ·exact ⟨Try.func109, by kernel_rfl⟩
  ·exact ⟨Try.func111, by kernel_rfl⟩
  ·exact ⟨Try.func113, by kernel_rfl⟩
  ·exact ⟨Try.func115, by kernel_rfl⟩
  ·exact ⟨Try.func116, by kernel_rfl⟩
  ·exact ⟨Try.func117, by kernel_rfl⟩
  ·exact ⟨Try.func118, by kernel_rfl⟩
  ·exact ⟨Try.func119, by kernel_rfl⟩
  ·exact ⟨Try.func120, by kernel_rfl⟩
  ·exact ⟨Try.func123, by kernel_rfl⟩
  ·exact ⟨Try.func124, by kernel_rfl⟩
  ·exact ⟨Try.func125, by kernel_rfl⟩
  ·exact ⟨Try.func126, by kernel_rfl⟩
  ·exact ⟨Try.func127, by kernel_rfl⟩
  ·exact ⟨Try.func128, by kernel_rfl⟩
  ·exact ⟨Try.func131, by kernel_rfl⟩
  ·exact ⟨Try.func132, by kernel_rfl⟩)
 sites := sI (fun _ => rfl) (by
  intro p hp
  simp only [List.mem_cons, List.not_mem_nil, or_false] at hp
  rcases hp with rfl | rfl | rfl | rfl | rfl | rfl | rfl | rfl | rfl | rfl | rfl | rfl | rfl | rfl | rfl | rfl | rfl | rfl | rfl | rfl | rfl | rfl | rfl | rfl | rfl | rfl | rfl | rfl | rfl | rfl | rfl | rfl | rfl | rfl | rfl | rfl | rfl | rfl | rfl | rfl | rfl | rfl | rfl | rfl | rfl | rfl | rfl | rfl | rfl | rfl | rfl | rfl | rfl | rfl | rfl | rfl | rfl | rfl | rfl | rfl | rfl | rfl | rfl | rfl | rfl | rfl | rfl | rfl | rfl | rfl | rfl | rfl | rfl | rfl | rfl | rfl | rfl | rfl | rfl | rfl | rfl | rfl | rfl | rfl | rfl | rfl | rfl | rfl | rfl
  iterate 7 exact .inl (by kernel_rfl)
  iterate 1 exact .inr ⟨by kernel_rfl, by kernel_rfl⟩
  iterate 7 exact .inl (by kernel_rfl)
  iterate 1 exact .inr ⟨by kernel_rfl, by kernel_rfl⟩
  iterate 11 exact .inl (by kernel_rfl)
  iterate 1 exact .inr ⟨by kernel_rfl, by kernel_rfl⟩
  iterate 61 exact .inl (by kernel_rfl))
 site := fun g q h => vN (F := PS) (L := Dv) (by
  intro p hp
  simp only [Dv, List.mem_cons, List.not_mem_nil, or_false] at hp
  first
  | exact hp.elim
  | (subst hp; exact ⟨by kernel_rfl, by kernel_rfl, by kernel_rfl⟩)
  | (rcases hp with rfl | rfl | rfl <;> exact ⟨by kernel_rfl, by kernel_rfl, by kernel_rfl⟩)) g q h
 foreign := nH (by
  intro p hp
  simp only [List.mem_cons, List.not_mem_nil, or_false] at hp
  rcases hp with rfl
  ·exact Du YI YJ YK rfl YL)
theorem Try.own : ownKnob Try.prog.godebug = none := by kernel_rfl
theorem Try.laidOut : laidOutB Try.prog = true := by kernel_rfl
theorem vD {H : Type} : ∀ l : List (DataW H), Rows.uptoBulkAll l = (l.map Rows.uptoBulk).sum
 | [] => by simp [Rows.uptoBulkAll]
 | x :: r => by rw [Rows.uptoBulkAll, vD r]; simp
theorem aaF {H : Type} : qp (Rows.uptoBulk (H := H)) where
 one := fun d => by cases d with
  | lit l => cases l <;> simp [Rows.uptoBulk]
  | _ => simp [Rows.uptoBulk]
 str := fun s => by simp [Rows.uptoBulk]
 slice := fun e s => by rw [Rows.uptoBulk, vD, vD]; omega
 agg := fun p => by rw [Rows.uptoBulk, vD]; omega
theorem Xh {H : Type} {dd gs : List (DataW H)} (h : Rows.uptoSmall H (dd ++ gs) = true) : (dd.map Rows.uptoBulk).sum ≤ 1048576 := by
 have h1 : Rows.uptoBulkAll (dd ++ gs) ≤ 1048576 := of_decide_eq_true h
 rw [vD, List.map_append, List.sum_append] at h1
 omega
theorem treeFinds_lifted (os : Os) (started : os.Started) (H : Type) (enc : TypeId × Go.Value → H) (F : Stop.Interp) :
  ReturnsInHanded {} Try.checked os 4 .any ((Rows.OpenSpec.upto Rows.treeFindsSpec).pre6 enc Try.prog Try.f4 Rows.treeFindsUptoRow.domain false) (((Rows.OpenSpec.upto Rows.treeFindsSpec).at F).post enc Try.prog Try.f4 false true false false) := by
 refine returnsInHanded_of_cond_sized (C := Try.checked) (s := Rows.OpenSpec.upto Rows.treeFindsSpec) (k := Rows.uptoSmall) rfl Try.own started (by kernel_rfl) Try.func4
  (OpenSpec.witness (enc := enc) (C := Try.checked) (s := Rows.OpenSpec.upto Rows.treeFindsSpec) (k := Rows.uptoSmall) rfl false ⟨#[], #[.agg #[.int .i64 0, .string ByteArray.empty, .int .u8 0, .string ByteArray.empty, .int .u8 0, .int .i64 0, .string ByteArray.empty, .slice none 0 0, .slice none 0 0, .int .u8 0, .string ByteArray.empty, .bool false, .slice none 0 0, .slice none 0 0, .slice none 0 0, .int .i64 0, .bool false, .bool false, .int .u8 0, .int .i64 0, .string ByteArray.empty, .slice none 0 0, .slice none 0 0, .int .u8 0, .string ByteArray.empty, .bool false, .string ByteArray.empty, .bool false, .slice none 0 0, .bool false, .bool false]], []⟩ 8 (by kernel_rfl) (by kernel_rfl) (by kernel_rfl)
   (x := ([.agg [.lit (.int .i64 0), .agg [.lit (.string []), .lit (.int .u8 0), .lit (.string []), .agg [.lit (.int .u8 0), .lit (.int .i64 0), .lit (.string []), .nil, .nil, .lit (.int .u8 0), .lit (.string []), .lit (.bool false)]], .nil, .nil, .nil, .lit (.int .i64 0), .lit (.bool false), .lit (.bool false), .agg [.lit (.int .u8 0), .lit (.int .i64 0), .lit (.string []), .nil, .nil, .lit (.int .u8 0), .lit (.string []), .lit (.bool false)], .lit (.string []), .lit (.bool false), .nil, .lit (.bool false), .lit (.bool false)]], [], [])) (by kernel_rfl) rfl (by kernel_rfl)) ?_
 intro W base args dd gs before hval hW _ hk hz _
 exact TR adN (L := [34, 3, 29, 9, 22, 27, 23, 2, 24, 25, 112, 4, 30, 78, 75, 76, 128, 121, 126, 122, 123, 124, 31, 32]) (by kernel_rfl) Try.laidOut (f := 4) (fn := Try.f4) (ts := [34]) rfl (by decide) (by
   intro t ht
   simp only [List.mem_cons, List.not_mem_nil, or_false] at ht
   subst ht; exact ⟨by kernel_rfl, of_decide_eq_true (by kernel_rfl)⟩) (rt := 4) rfl (by kernel_rfl) (s := Rows.treeFindsSpec) rfl hval hW hz
  (fun d hd => by
   match d, hd with
   | [_], _ => exact ⟨rfl, rfl, rfl⟩) (fun q hq => by cases hq) (by kernel_rfl) aaF (Xh hk) ahM
theorem treeFinds_holds : Rows.TreeFindsUptoSaid :=
 OpenClaim.holds_of_cond 4 Try.f4 rfl rfl rfl rfl rfl rfl rfl ⟨rfl, rfl, rfl, rfl, rfl⟩ rfl rfl rfl rfl rfl (by kernel_rfl) Try.func4 (by kernel_rfl)
  (of_decide_eq_true (by kernel_rfl)) (by unfold Func.isWrapper; first | (rw [if_pos (by decide +kernel)]; kernel_rfl) | (rw [if_neg (by decide +kernel)]; exact ⟨rfl, rfl⟩))
  (fun os started H enc _ F => treeFinds_lifted os started H enc F)
#print axioms treeFinds_holds
end Go.Proofs.Ytedfkehkcaaplaa
