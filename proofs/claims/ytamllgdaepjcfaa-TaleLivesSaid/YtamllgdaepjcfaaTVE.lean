/- Plain data, and how it lies in cells: printed by a small program. -/
import Derived.Test.YtamllgdaepjcfaaTVC
namespace Go.Proofs.Ytamllgdaepjcfaa
open Go Go.X
set_option linter.unusedVariables false
set_option linter.unusedSimpArgs false
set_option maxRecDepth 100000
structure Note where
  Kind : Int
  Inst : Int
  Name : ByteArray
  Late : Bool
  Text : ByteArray
structure Talerun where
  name : ByteArray
  late : Bool
noncomputable def e_Note : Note → List D
  | ⟨Kind, Inst, Name, Late, Text⟩ => [.int .u8 Kind] ++ [.int .i64 Inst] ++ [.str Name] ++ [.bool Late] ++ [.str Text]
noncomputable def e_Talerun : Talerun → List D
  | ⟨name, late⟩ => [.str name] ++ [.bool late]
instance : BEq Talerun := ⟨fun a b => a.name == b.name && (a.late == b.late && true)⟩
def kx_Talerun : Talerun → PV
  | ⟨x_name, x_late⟩ => .agg [.d (.str x_name), .d (.bool x_late)]
structure Enc where
  L_Note : List Note → List (List D)
  X_Note : Option (List Note) → Option (List (List D))
  M_Talerun_bool : List (Talerun × Bool) → List (PV × PV)
noncomputable def theEnc : Enc := { L_Note := List.map (fun x => e_Note x), X_Note := Option.map (List.map (fun x => e_Note x)), M_Talerun_bool := List.map (fun p => ((kx_Talerun p.1), (.d (.bool p.2)))) }
def ce_Note (E : Enc) : Note → List D
  | ⟨x_Kind, x_Inst, x_Name, x_Late, x_Text⟩ => [.int .u8 x_Kind, .int .i64 x_Inst, .str x_Name, .bool x_Late, .str x_Text]
theorem ro_Note {E : Enc} (hE : theEnc = E) : RowsOf E.L_Note E.X_Note (ce_Note E) 5 := by
  subst hE
  have hc : ∀ x, e_Note x = ce_Note theEnc x := fun x => by obtain ⟨x_Kind, x_Inst, x_Name, x_Late, x_Text⟩ := x; first | rfl | (simp only [e_Note, e_Talerun, ce_Note]; rfl)
  refine ⟨fun l => ?_, fun x => ?_, fun x => ?_⟩
  · exact congrArg (fun f => List.map f l) (funext hc)
  · rfl
  · obtain ⟨x_Kind, x_Inst, x_Name, x_Late, x_Text⟩ := x; rfl
def kv_Talerun_bool (E : Enc) : Bool → PV
  | x => .d (.bool x)
def kk_Talerun_bool : Talerun → PV := kx_Talerun
theorem mo_Talerun_bool {E : Enc} (hE : theEnc = E) : MapsOf E.M_Talerun_bool kk_Talerun_bool (kv_Talerun_bool E) := by
  subst hE
  refine ⟨fun l => ?_, fun x y => ?_⟩
  · show List.map _ l = List.map _ l
    congr 1
  · cases x <;> cases y <;> rfl
def pv_Note (E : Enc) : Note → PV
  | ⟨x_Kind, x_Inst, x_Name, x_Late, x_Text⟩ => .agg [.d (.int .u8 x_Kind), .d (.int .i64 x_Inst), .d (.str x_Name), .d (.bool x_Late), .d (.str x_Text)]
def bx_88 (E : Enc) (m0 : Nat) : Bool × Bool × Bool → List PV
  | ⟨x_0, x_1, x_2⟩ => [.d (.bool x_0), .d (.bool x_1), .d (.bool x_2), .map 0 m0]
noncomputable def S : X.Sys := { fn := fnOf [(15, Try.f15), (35, Try.f35), (46, Try.f46), (47, Try.f47), (48, Try.f48), (49, Try.f49), (58, Try.f58)], tab := tab, foreign := fun _ => none }
end Go.Proofs.Ytamllgdaepjcfaa
