/- Plain data, and how it lies in cells: printed by a small program. -/
import Derived.Test.YtipkggkbldgmjaaWGC
import Derived.Test.YtipkggkbldgmjaaXEval
namespace Go.Proofs.Ytipkggkbldgmjaa
open Go Go.X
set_option linter.unusedVariables false
set_option linter.unusedSimpArgs false
set_option maxRecDepth 100000
mutual
inductive Value where
  | mk (Kind : Int) (N : Int) (S : ByteArray) (L : Sl Value) (F : Sl Field) (Elem : Int) (Key : ByteArray) (HasKey : Bool)
inductive Field where
  | mk (Name : ByteArray) (Value_ : Value)
end
mutual
noncomputable def e_Value : Value → List D
  | .mk Kind N S L F Elem Key HasKey => [.int .u8 Kind] ++ [.int .i64 N] ++ [.str S] ++ [es_Value L] ++ [es_Field F] ++ [.int .u8 Elem] ++ [.str Key] ++ [.bool HasKey]
noncomputable def e_Field : Field → List D
  | .mk Name Value_ => [.str Name] ++ e_Value Value_
noncomputable def es_Value : Sl Value → D
  | .mk l x => .sl (el_Value l) (eo_Value x)
noncomputable def el_Value : List Value → List (List D)
  | [] => []
  | v :: r => e_Value v :: el_Value r
noncomputable def eo_Value : Option (List Value) → Option (List (List D))
  | none => none
  | some l => some (el_Value l)
noncomputable def es_Field : Sl Field → D
  | .mk l x => .sl (el_Field l) (eo_Field x)
noncomputable def el_Field : List Field → List (List D)
  | [] => []
  | v :: r => e_Field v :: el_Field r
noncomputable def eo_Field : Option (List Field) → Option (List (List D))
  | none => none
  | some l => some (el_Field l)
end
theorem el_Value_map : ∀ l, el_Value l = l.map e_Value
  | [] => rfl
  | v :: r => by rw [el_Value, el_Value_map r]; rfl
theorem eo_Value_map : ∀ x, eo_Value x = x.map (List.map e_Value)
  | none => rfl
  | some l => by rw [eo_Value, el_Value_map]; rfl
theorem el_Field_map : ∀ l, el_Field l = l.map e_Field
  | [] => rfl
  | v :: r => by rw [el_Field, el_Field_map r]; rfl
theorem eo_Field_map : ∀ x, eo_Field x = x.map (List.map e_Field)
  | none => rfl
  | some l => by rw [eo_Field, el_Field_map]; rfl
structure Enc where
  L_Field : List Field → List (List D)
  X_Field : Option (List Field) → Option (List (List D))
  L_Value : List Value → List (List D)
  X_Value : Option (List Value) → Option (List (List D))
noncomputable def theEnc : Enc := { L_Field := el_Field, X_Field := eo_Field, L_Value := el_Value, X_Value := eo_Value }
def ce_Field (E : Enc) : Field → List D
  | ⟨x_Name, ⟨x_Value__Kind, x_Value__N, x_Value__S, ⟨x_Value__L_l, x_Value__L_x⟩, ⟨x_Value__F_l, x_Value__F_x⟩, x_Value__Elem, x_Value__Key, x_Value__HasKey⟩⟩ => [.str x_Name, .int .u8 x_Value__Kind, .int .i64 x_Value__N, .str x_Value__S, .sl (E.L_Value x_Value__L_l) (E.X_Value x_Value__L_x), .sl (E.L_Field x_Value__F_l) (E.X_Field x_Value__F_x), .int .u8 x_Value__Elem, .str x_Value__Key, .bool x_Value__HasKey]
set_option maxHeartbeats 4000000 in
theorem ro_Field {E : Enc} (hE : theEnc = E) : RowsOf E.L_Field E.X_Field (ce_Field E) 9 := by
  subst hE
  have hc : ∀ x, e_Field x = ce_Field theEnc x := fun x => by obtain ⟨x_Name, ⟨x_Value__Kind, x_Value__N, x_Value__S, ⟨x_Value__L_l, x_Value__L_x⟩, ⟨x_Value__F_l, x_Value__F_x⟩, x_Value__Elem, x_Value__Key, x_Value__HasKey⟩⟩ := x; first | rfl | (simp only [e_Value, e_Field, es_Field, es_Value, ce_Field]; rfl)
  refine ⟨fun l => ?_, fun x => ?_, fun x => ?_⟩
  · exact (el_Field_map l).trans (congrArg (fun f => List.map f l) (funext hc))
  · exact (eo_Field_map x).trans (by rw [← funext el_Field_map]; rfl)
  · obtain ⟨x_Name, ⟨x_Value__Kind, x_Value__N, x_Value__S, ⟨x_Value__L_l, x_Value__L_x⟩, ⟨x_Value__F_l, x_Value__F_x⟩, x_Value__Elem, x_Value__Key, x_Value__HasKey⟩⟩ := x; rfl
def ce_Value (E : Enc) : Value → List D
  | ⟨x_Kind, x_N, x_S, ⟨x_L_l, x_L_x⟩, ⟨x_F_l, x_F_x⟩, x_Elem, x_Key, x_HasKey⟩ => [.int .u8 x_Kind, .int .i64 x_N, .str x_S, .sl (E.L_Value x_L_l) (E.X_Value x_L_x), .sl (E.L_Field x_F_l) (E.X_Field x_F_x), .int .u8 x_Elem, .str x_Key, .bool x_HasKey]
set_option maxHeartbeats 4000000 in
theorem ro_Value {E : Enc} (hE : theEnc = E) : RowsOf E.L_Value E.X_Value (ce_Value E) 8 := by
  subst hE
  have hc : ∀ x, e_Value x = ce_Value theEnc x := fun x => by obtain ⟨x_Kind, x_N, x_S, ⟨x_L_l, x_L_x⟩, ⟨x_F_l, x_F_x⟩, x_Elem, x_Key, x_HasKey⟩ := x; first | rfl | (simp only [e_Value, e_Field, es_Field, es_Value, ce_Value]; rfl)
  refine ⟨fun l => ?_, fun x => ?_, fun x => ?_⟩
  · exact (el_Value_map l).trans (congrArg (fun f => List.map f l) (funext hc))
  · exact (eo_Value_map x).trans (by rw [← funext el_Value_map]; rfl)
  · obtain ⟨x_Kind, x_N, x_S, ⟨x_L_l, x_L_x⟩, ⟨x_F_l, x_F_x⟩, x_Elem, x_Key, x_HasKey⟩ := x; rfl
def pv_Value (E : Enc) : Value → PV
  | ⟨x_Kind, x_N, x_S, ⟨x_L_l, x_L_x⟩, ⟨x_F_l, x_F_x⟩, x_Elem, x_Key, x_HasKey⟩ => .agg [.d (.int .u8 x_Kind), .d (.int .i64 x_N), .d (.str x_S), .d (.sl (E.L_Value x_L_l) (E.X_Value x_L_x)), .d (.sl (E.L_Field x_F_l) (E.X_Field x_F_x)), .d (.int .u8 x_Elem), .d (.str x_Key), .d (.bool x_HasKey)]
def pv_Field (E : Enc) : Field → PV
  | ⟨x_Name, ⟨x_Value__Kind, x_Value__N, x_Value__S, ⟨x_Value__L_l, x_Value__L_x⟩, ⟨x_Value__F_l, x_Value__F_x⟩, x_Value__Elem, x_Value__Key, x_Value__HasKey⟩⟩ => .agg [.d (.str x_Name), .d (.int .u8 x_Value__Kind), .d (.int .i64 x_Value__N), .d (.str x_Value__S), .d (.sl (E.L_Value x_Value__L_l) (E.X_Value x_Value__L_x)), .d (.sl (E.L_Field x_Value__F_l) (E.X_Field x_Value__F_x)), .d (.int .u8 x_Value__Elem), .d (.str x_Value__Key), .d (.bool x_Value__HasKey)]
def bx_27 (E : Enc) : Value → List PV
  | ⟨x_Kind, x_N, x_S, ⟨x_L_l, x_L_x⟩, ⟨x_F_l, x_F_x⟩, x_Elem, x_Key, x_HasKey⟩ => [.d (.int .u8 x_Kind), .d (.int .i64 x_N), .d (.str x_S), .d (.sl (E.L_Value x_L_l) (E.X_Value x_L_x)), .d (.sl (E.L_Field x_F_l) (E.X_Field x_F_x)), .d (.int .u8 x_Elem), .d (.str x_Key), .d (.bool x_HasKey)]
noncomputable def S : X.Sys := { fn := fnOf [(3, Try.f3), (7, Try.f7), (8, Try.f8), (9, Try.f9), (23, Try.f23), (24, Try.f24), (25, Try.f25), (26, Try.f26), (27, Try.f27), (28, Try.f28), (29, Try.f29), (47, Try.f47), (48, Try.f48), (49, Try.f49), (50, Try.f50), (51, Try.f51), (52, Try.f52), (53, Try.f53), (69, Try.f69), (70, Try.f70), (71, Try.f71)], tab := tab, foreign := pickOf [(10, closedF (.d (.bool true)))] }
end Go.Proofs.Ytipkggkbldgmjaa
