/- Plain data, and how it lies in cells: printed by a small program. -/
import Derived.Test.YtamllgdaepjcfaaTCC
namespace Go.Proofs.Ytamllgdaepjcfaa
open Go Go.X
set_option linter.unusedVariables false
set_option linter.unusedSimpArgs false
set_option maxRecDepth 100000
structure Note where
  Kind : Int
  Inst : Int
  Name : ByteArray
  Late : Bool
  Text : ByteArray
structure Talerun where
  name : ByteArray
  late : Bool
noncomputable def e_Note : Note → List D
  | ⟨Kind, Inst, Name, Late, Text⟩ => [.int .u8 Kind] ++ [.int .i64 Inst] ++ [.str Name] ++ [.bool Late] ++ [.str Text]
noncomputable def e_Talerun : Talerun → List D
  | ⟨name, late⟩ => [.str name] ++ [.bool late]
instance : BEq Talerun := ⟨fun a b => a.name == b.name && (a.late == b.late && true)⟩
def kx_Talerun : Talerun → PV
  | ⟨x_name, x_late⟩ => .agg [.d (.str x_name), .d (.bool x_late)]
structure Enc where
  L_Note : List Note → List (List D)
  X_Note : Option (List Note) → Option (List (List D))
  L_i_i64 : List Int → List (List D)
  X_i_i64 : Option (List Int) → Option (List (List D))
  M_Talerun_bool : List (Talerun × Bool) → List (PV × PV)
noncomputable def theEnc : Enc := { L_Note := List.map (fun x => e_Note x), X_Note := Option.map (List.map (fun x => e_Note x)), L_i_i64 := List.map (fun x => [.int .i64 x]), X_i_i64 := Option.map (List.map (fun x => [.int .i64 x])), M_Talerun_bool := List.map (fun p => ((kx_Talerun p.1), (.d (.bool p.2)))) }
def ce_Note (E : Enc) : Note → List D
  | ⟨x_Kind, x_Inst, x_Name, x_Late, x_Text⟩ => [.int .u8 x_Kind, .int .i64 x_Inst, .str x_Name, .bool x_Late, .str x_Text]
theorem ro_Note {E : Enc} (hE : theEnc = E) : RowsOf E.L_Note E.X_Note (ce_Note E) 5 := by
  subst hE
  have hc : ∀ x, e_Note x = ce_Note theEnc x := fun x => by obtain ⟨x_Kind, x_Inst, x_Name, x_Late, x_Text⟩ := x; first | rfl | (simp only [e_Note, e_Talerun, ce_Note]; rfl)
  refine ⟨fun l => ?_, fun x => ?_, fun x => ?_⟩
  · exact congrArg (fun f => List.map f l) (funext hc)
  · rfl
  · obtain ⟨x_Kind, x_Inst, x_Name, x_Late, x_Text⟩ := x; rfl
def ce_i_i64 (E : Enc) : Int → List D
  | x => [.int .i64 x]
theorem ro_i_i64 {E : Enc} (hE : theEnc = E) : RowsOf E.L_i_i64 E.X_i_i64 (ce_i_i64 E) 1 := by
  subst hE
  have hc : ∀ x, [.int .i64 x] = ce_i_i64 theEnc x := fun x => by first | rfl | (simp only [e_Note, e_Talerun, ce_i_i64]; rfl)
  refine ⟨fun l => ?_, fun x => ?_, fun x => ?_⟩
  · exact congrArg (fun f => List.map f l) (funext hc)
  · rfl
  · rfl
def kv_Talerun_bool (E : Enc) : Bool → PV
  | x => .d (.bool x)
def kk_Talerun_bool : Talerun → PV := kx_Talerun
theorem mo_Talerun_bool {E : Enc} (hE : theEnc = E) : MapsOf E.M_Talerun_bool kk_Talerun_bool (kv_Talerun_bool E) := by
  subst hE
  refine ⟨fun l => ?_, fun x y => ?_⟩
  · show List.map _ l = List.map _ l
    congr 1
  · cases x <;> cases y <;> rfl
def pv_Note (E : Enc) : Note → PV
  | ⟨x_Kind, x_Inst, x_Name, x_Late, x_Text⟩ => .agg [.d (.int .u8 x_Kind), .d (.int .i64 x_Inst), .d (.str x_Name), .d (.bool x_Late), .d (.str x_Text)]
def bx_88 (E : Enc) (m0 : Nat) : Bool × Bool × Bool → List PV
  | ⟨x_0, x_1, x_2⟩ => [.d (.bool x_0), .d (.bool x_1), .d (.bool x_2), .map 0 m0]
noncomputable def S : X.Sys := { fn := fnOf [(8, Try.f8), (19, Try.f19), (33, Try.f33), (34, Try.f34), (35, Try.f35), (36, Try.f36), (37, Try.f37), (58, Try.f58), (59, Try.f59), (60, Try.f60), (69, Try.f69), (70, Try.f70), (71, Try.f71)], tab := tab, foreign := fun _ => none }
end Go.Proofs.Ytamllgdaepjcfaa
