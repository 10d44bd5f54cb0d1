/- Plain data, and how it lies in cells: printed by a small program. -/
import Derived.Test.YtamllgdaepjcfaaPCC
namespace Go.Proofs.Ytamllgdaepjcfaa
open Go Go.X
set_option linter.unusedVariables false
set_option linter.unusedSimpArgs false
set_option maxRecDepth 100000
structure PlaceStep where
  Node : Int
  Before : Int
structure Ref09Step where
  Node : Int
  Before : Int
noncomputable def e_PlaceStep : PlaceStep → List D
  | ⟨Node, Before⟩ => [.int .i64 Node] ++ [.int .i64 Before]
noncomputable def e_Ref09Step : Ref09Step → List D
  | ⟨Node, Before⟩ => [.int .i64 Node] ++ [.int .i64 Before]
structure Enc where
  L_i_i64 : List Int → List (List D)
  X_i_i64 : Option (List Int) → Option (List (List D))
  L_PlaceStep : List PlaceStep → List (List D)
  X_PlaceStep : Option (List PlaceStep) → Option (List (List D))
  L_bool : List Bool → List (List D)
  X_bool : Option (List Bool) → Option (List (List D))
  L_Ref09Step : List Ref09Step → List (List D)
  X_Ref09Step : Option (List Ref09Step) → Option (List (List D))
  M_i_i64_i_i64 : List (Int × Int) → List (PV × PV)
noncomputable def theEnc : Enc := { L_i_i64 := List.map (fun x => [.int .i64 x]), X_i_i64 := Option.map (List.map (fun x => [.int .i64 x])), L_PlaceStep := List.map (fun x => e_PlaceStep x), X_PlaceStep := Option.map (List.map (fun x => e_PlaceStep x)), L_bool := List.map (fun x => [.bool x]), X_bool := Option.map (List.map (fun x => [.bool x])), L_Ref09Step := List.map (fun x => e_Ref09Step x), X_Ref09Step := Option.map (List.map (fun x => e_Ref09Step x)), M_i_i64_i_i64 := List.map (fun p => ((.d (.int .i64 p.1)), (.d (.int .i64 p.2)))) }
def ce_i_i64 (E : Enc) : Int → List D
  | x => [.int .i64 x]
theorem ro_i_i64 {E : Enc} (hE : theEnc = E) : RowsOf E.L_i_i64 E.X_i_i64 (ce_i_i64 E) 1 := by
  subst hE
  have hc : ∀ x, [.int .i64 x] = ce_i_i64 theEnc x := fun x => by first | rfl | (simp only [e_PlaceStep, e_Ref09Step, ce_i_i64]; rfl)
  refine ⟨fun l => ?_, fun x => ?_, fun x => ?_⟩
  · exact congrArg (fun f => List.map f l) (funext hc)
  · rfl
  · rfl
def ce_PlaceStep (E : Enc) : PlaceStep → List D
  | ⟨x_Node, x_Before⟩ => [.int .i64 x_Node, .int .i64 x_Before]
theorem ro_PlaceStep {E : Enc} (hE : theEnc = E) : RowsOf E.L_PlaceStep E.X_PlaceStep (ce_PlaceStep E) 2 := by
  subst hE
  have hc : ∀ x, e_PlaceStep x = ce_PlaceStep theEnc x := fun x => by obtain ⟨x_Node, x_Before⟩ := x; first | rfl | (simp only [e_PlaceStep, e_Ref09Step, ce_PlaceStep]; rfl)
  refine ⟨fun l => ?_, fun x => ?_, fun x => ?_⟩
  · exact congrArg (fun f => List.map f l) (funext hc)
  · rfl
  · obtain ⟨x_Node, x_Before⟩ := x; rfl
def ce_bool (E : Enc) : Bool → List D
  | x => [.bool x]
theorem ro_bool {E : Enc} (hE : theEnc = E) : RowsOf E.L_bool E.X_bool (ce_bool E) 1 := by
  subst hE
  have hc : ∀ x, [.bool x] = ce_bool theEnc x := fun x => by first | rfl | (simp only [e_PlaceStep, e_Ref09Step, ce_bool]; rfl)
  refine ⟨fun l => ?_, fun x => ?_, fun x => ?_⟩
  · exact congrArg (fun f => List.map f l) (funext hc)
  · rfl
  · rfl
def ce_Ref09Step (E : Enc) : Ref09Step → List D
  | ⟨x_Node, x_Before⟩ => [.int .i64 x_Node, .int .i64 x_Before]
theorem ro_Ref09Step {E : Enc} (hE : theEnc = E) : RowsOf E.L_Ref09Step E.X_Ref09Step (ce_Ref09Step E) 2 := by
  subst hE
  have hc : ∀ x, e_Ref09Step x = ce_Ref09Step theEnc x := fun x => by obtain ⟨x_Node, x_Before⟩ := x; first | rfl | (simp only [e_PlaceStep, e_Ref09Step, ce_Ref09Step]; rfl)
  refine ⟨fun l => ?_, fun x => ?_, fun x => ?_⟩
  · exact congrArg (fun f => List.map f l) (funext hc)
  · rfl
  · obtain ⟨x_Node, x_Before⟩ := x; rfl
def kv_i_i64_i_i64 (E : Enc) : Int → PV
  | x => .d (.int .i64 x)
def kk_i_i64_i_i64 : Int → PV
  | x => .d (.int .i64 x)
theorem mo_i_i64_i_i64 {E : Enc} (hE : theEnc = E) : MapsOf E.M_i_i64_i_i64 kk_i_i64_i_i64 (kv_i_i64_i_i64 E) := by
  subst hE
  refine ⟨fun l => ?_, fun x y => ?_, fun n x => rfl, fun n x => ?_⟩
  · show List.map _ l = List.map _ l
    congr 1
  · rfl
  · rfl
def bx_31 (E : Enc) : Sl Int → List PV
  | ⟨x_l, x_x⟩ => [.d (.sl (E.L_i_i64 x_l) (E.X_i_i64 x_x))]
def bx_34 (E : Enc) : Sl Bool → List PV
  | ⟨x_l, x_x⟩ => [.d (.sl (E.L_bool x_l) (E.X_bool x_x))]
noncomputable def S : X.Sys := { fn := fnOf [(9, Try.f9), (20, Try.f20), (21, Try.f21), (22, Try.f22), (23, Try.f23), (38, Try.f38), (39, Try.f39), (61, Try.f61), (62, Try.f62), (63, Try.f63), (64, Try.f64)], tab := tab, foreign := fun _ => none }
end Go.Proofs.Ytamllgdaepjcfaa
