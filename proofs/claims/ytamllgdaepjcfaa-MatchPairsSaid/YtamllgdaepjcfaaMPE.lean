/- Plain data, and how it lies in cells: printed by a small program. -/
import Derived.Test.YtamllgdaepjcfaaMPC
namespace Go.Proofs.Ytamllgdaepjcfaa
open Go Go.X
set_option linter.unusedVariables false
set_option linter.unusedSimpArgs false
set_option maxRecDepth 100000
mutual
inductive Value where
  | mk (Kind : Int) (N : Int) (S : ByteArray) (L : Sl Value) (F : Sl Field) (Elem : Int) (Key : ByteArray) (HasKey : Bool)
inductive Field where
  | mk (Name : ByteArray) (Value : Value)
end
structure Child where
  Key : ByteArray
  Kind : Int
  Name : ByteArray
  Value : Value
mutual
noncomputable def e_Value : Value → List D
  | .mk Kind N S L F Elem Key HasKey => [.int .u8 Kind] ++ [.int .i64 N] ++ [.str S] ++ [es_Value L] ++ [es_Field F] ++ [.int .u8 Elem] ++ [.str Key] ++ [.bool HasKey]
noncomputable def e_Field : Field → List D
  | .mk Name Value => [.str Name] ++ e_Value Value
noncomputable def es_Value : Sl Value → D
  | .mk l x => .sl (el_Value l) (eo_Value x)
noncomputable def el_Value : List Value → List (List D)
  | [] => []
  | v :: r => e_Value v :: el_Value r
noncomputable def eo_Value : Option (List Value) → Option (List (List D))
  | none => none
  | some l => some (el_Value l)
noncomputable def es_Field : Sl Field → D
  | .mk l x => .sl (el_Field l) (eo_Field x)
noncomputable def el_Field : List Field → List (List D)
  | [] => []
  | v :: r => e_Field v :: el_Field r
noncomputable def eo_Field : Option (List Field) → Option (List (List D))
  | none => none
  | some l => some (el_Field l)
end
theorem el_Value_map : ∀ l, el_Value l = l.map e_Value
  | [] => rfl
  | v :: r => by rw [el_Value, el_Value_map r]; rfl
theorem eo_Value_map : ∀ x, eo_Value x = x.map (List.map e_Value)
  | none => rfl
  | some l => by rw [eo_Value, el_Value_map]; rfl
theorem el_Field_map : ∀ l, el_Field l = l.map e_Field
  | [] => rfl
  | v :: r => by rw [el_Field, el_Field_map r]; rfl
theorem eo_Field_map : ∀ x, eo_Field x = x.map (List.map e_Field)
  | none => rfl
  | some l => by rw [eo_Field, el_Field_map]; rfl
noncomputable def e_Child : Child → List D
  | ⟨Key, Kind, Name, Value⟩ => [.str Key] ++ [.int .u8 Kind] ++ [.str Name] ++ e_Value Value
structure Enc where
  L_Value : List Value → List (List D)
  X_Value : Option (List Value) → Option (List (List D))
  L_Field : List Field → List (List D)
  X_Field : Option (List Field) → Option (List (List D))
  L_Child : List Child → List (List D)
  X_Child : Option (List Child) → Option (List (List D))
  L_i_i64 : List Int → List (List D)
  X_i_i64 : Option (List Int) → Option (List (List D))
  M_str_i_i64 : List (ByteArray × Int) → List (PV × PV)
noncomputable def theEnc : Enc := { L_Value := el_Value, X_Value := eo_Value, L_Field := el_Field, X_Field := eo_Field, L_Child := List.map (fun x => e_Child x), X_Child := Option.map (List.map (fun x => e_Child x)), L_i_i64 := List.map (fun x => [.int .i64 x]), X_i_i64 := Option.map (List.map (fun x => [.int .i64 x])), M_str_i_i64 := List.map (fun p => ((.d (.str p.1)), (.d (.int .i64 p.2)))) }
def ce_Value (E : Enc) : Value → List D
  | ⟨x_Kind, x_N, x_S, ⟨x_L_l, x_L_x⟩, ⟨x_F_l, x_F_x⟩, x_Elem, x_Key, x_HasKey⟩ => [.int .u8 x_Kind, .int .i64 x_N, .str x_S, .sl (E.L_Value x_L_l) (E.X_Value x_L_x), .sl (E.L_Field x_F_l) (E.X_Field x_F_x), .int .u8 x_Elem, .str x_Key, .bool x_HasKey]
theorem ro_Value {E : Enc} (hE : theEnc = E) : RowsOf E.L_Value E.X_Value (ce_Value E) 8 := by
  subst hE
  have hc : ∀ x, e_Value x = ce_Value theEnc x := fun x => by obtain ⟨x_Kind, x_N, x_S, ⟨x_L_l, x_L_x⟩, ⟨x_F_l, x_F_x⟩, x_Elem, x_Key, x_HasKey⟩ := x; first | rfl | (simp only [e_Value, e_Field, e_Child, es_Field, es_Value, ce_Value]; rfl)
  refine ⟨fun l => ?_, fun x => ?_, fun x => ?_⟩
  · exact (el_Value_map l).trans (congrArg (fun f => List.map f l) (funext hc))
  · exact (eo_Value_map x).trans (by rw [← funext el_Value_map]; rfl)
  · obtain ⟨x_Kind, x_N, x_S, ⟨x_L_l, x_L_x⟩, ⟨x_F_l, x_F_x⟩, x_Elem, x_Key, x_HasKey⟩ := x; rfl
def ce_Field (E : Enc) : Field → List D
  | ⟨x_Name, ⟨x_Value_Kind, x_Value_N, x_Value_S, ⟨x_Value_L_l, x_Value_L_x⟩, ⟨x_Value_F_l, x_Value_F_x⟩, x_Value_Elem, x_Value_Key, x_Value_HasKey⟩⟩ => [.str x_Name, .int .u8 x_Value_Kind, .int .i64 x_Value_N, .str x_Value_S, .sl (E.L_Value x_Value_L_l) (E.X_Value x_Value_L_x), .sl (E.L_Field x_Value_F_l) (E.X_Field x_Value_F_x), .int .u8 x_Value_Elem, .str x_Value_Key, .bool x_Value_HasKey]
theorem ro_Field {E : Enc} (hE : theEnc = E) : RowsOf E.L_Field E.X_Field (ce_Field E) 9 := by
  subst hE
  have hc : ∀ x, e_Field x = ce_Field theEnc x := fun x => by obtain ⟨x_Name, ⟨x_Value_Kind, x_Value_N, x_Value_S, ⟨x_Value_L_l, x_Value_L_x⟩, ⟨x_Value_F_l, x_Value_F_x⟩, x_Value_Elem, x_Value_Key, x_Value_HasKey⟩⟩ := x; first | rfl | (simp only [e_Value, e_Field, e_Child, es_Field, es_Value, ce_Field]; rfl)
  refine ⟨fun l => ?_, fun x => ?_, fun x => ?_⟩
  · exact (el_Field_map l).trans (congrArg (fun f => List.map f l) (funext hc))
  · exact (eo_Field_map x).trans (by rw [← funext el_Field_map]; rfl)
  · obtain ⟨x_Name, ⟨x_Value_Kind, x_Value_N, x_Value_S, ⟨x_Value_L_l, x_Value_L_x⟩, ⟨x_Value_F_l, x_Value_F_x⟩, x_Value_Elem, x_Value_Key, x_Value_HasKey⟩⟩ := x; rfl
def ce_Child (E : Enc) : Child → List D
  | ⟨x_Key, x_Kind, x_Name, ⟨x_Value_Kind, x_Value_N, x_Value_S, ⟨x_Value_L_l, x_Value_L_x⟩, ⟨x_Value_F_l, x_Value_F_x⟩, x_Value_Elem, x_Value_Key, x_Value_HasKey⟩⟩ => [.str x_Key, .int .u8 x_Kind, .str x_Name, .int .u8 x_Value_Kind, .int .i64 x_Value_N, .str x_Value_S, .sl (E.L_Value x_Value_L_l) (E.X_Value x_Value_L_x), .sl (E.L_Field x_Value_F_l) (E.X_Field x_Value_F_x), .int .u8 x_Value_Elem, .str x_Value_Key, .bool x_Value_HasKey]
theorem ro_Child {E : Enc} (hE : theEnc = E) : RowsOf E.L_Child E.X_Child (ce_Child E) 11 := by
  subst hE
  have hc : ∀ x, e_Child x = ce_Child theEnc x := fun x => by obtain ⟨x_Key, x_Kind, x_Name, ⟨x_Value_Kind, x_Value_N, x_Value_S, ⟨x_Value_L_l, x_Value_L_x⟩, ⟨x_Value_F_l, x_Value_F_x⟩, x_Value_Elem, x_Value_Key, x_Value_HasKey⟩⟩ := x; first | rfl | (simp only [e_Value, e_Field, e_Child, es_Field, es_Value, ce_Child]; rfl)
  refine ⟨fun l => ?_, fun x => ?_, fun x => ?_⟩
  · exact congrArg (fun f => List.map f l) (funext hc)
  · rfl
  · obtain ⟨x_Key, x_Kind, x_Name, ⟨x_Value_Kind, x_Value_N, x_Value_S, ⟨x_Value_L_l, x_Value_L_x⟩, ⟨x_Value_F_l, x_Value_F_x⟩, x_Value_Elem, x_Value_Key, x_Value_HasKey⟩⟩ := x; rfl
def ce_i_i64 (E : Enc) : Int → List D
  | x => [.int .i64 x]
theorem ro_i_i64 {E : Enc} (hE : theEnc = E) : RowsOf E.L_i_i64 E.X_i_i64 (ce_i_i64 E) 1 := by
  subst hE
  have hc : ∀ x, [.int .i64 x] = ce_i_i64 theEnc x := fun x => by first | rfl | (simp only [e_Value, e_Field, e_Child, es_Field, es_Value, ce_i_i64]; rfl)
  refine ⟨fun l => ?_, fun x => ?_, fun x => ?_⟩
  · exact congrArg (fun f => List.map f l) (funext hc)
  · rfl
  · rfl
def kv_str_i_i64 (E : Enc) : Int → PV
  | x => .d (.int .i64 x)
def kk_str_i_i64 : ByteArray → PV
  | x => .d (.str x)
theorem mo_str_i_i64 {E : Enc} (hE : theEnc = E) : MapsOf E.M_str_i_i64 kk_str_i_i64 (kv_str_i_i64 E) := by
  subst hE
  refine ⟨fun l => ?_, fun x y => ?_, fun n x => rfl, fun n x => ?_⟩
  · show List.map _ l = List.map _ l
    congr 1
  · rfl
  · rfl
def pv_Value (E : Enc) : Value → PV
  | ⟨x_Kind, x_N, x_S, ⟨x_L_l, x_L_x⟩, ⟨x_F_l, x_F_x⟩, x_Elem, x_Key, x_HasKey⟩ => .agg [.d (.int .u8 x_Kind), .d (.int .i64 x_N), .d (.str x_S), .d (.sl (E.L_Value x_L_l) (E.X_Value x_L_x)), .d (.sl (E.L_Field x_F_l) (E.X_Field x_F_x)), .d (.int .u8 x_Elem), .d (.str x_Key), .d (.bool x_HasKey)]
def pv_Child (E : Enc) : Child → PV
  | ⟨x_Key, x_Kind, x_Name, ⟨x_Value_Kind, x_Value_N, x_Value_S, ⟨x_Value_L_l, x_Value_L_x⟩, ⟨x_Value_F_l, x_Value_F_x⟩, x_Value_Elem, x_Value_Key, x_Value_HasKey⟩⟩ => .agg [.d (.str x_Key), .d (.int .u8 x_Kind), .d (.str x_Name), .d (.int .u8 x_Value_Kind), .d (.int .i64 x_Value_N), .d (.str x_Value_S), .d (.sl (E.L_Value x_Value_L_l) (E.X_Value x_Value_L_x)), .d (.sl (E.L_Field x_Value_F_l) (E.X_Field x_Value_F_x)), .d (.int .u8 x_Value_Elem), .d (.str x_Value_Key), .d (.bool x_Value_HasKey)]
def pv_Field (E : Enc) : Field → PV
  | ⟨x_Name, ⟨x_Value_Kind, x_Value_N, x_Value_S, ⟨x_Value_L_l, x_Value_L_x⟩, ⟨x_Value_F_l, x_Value_F_x⟩, x_Value_Elem, x_Value_Key, x_Value_HasKey⟩⟩ => .agg [.d (.str x_Name), .d (.int .u8 x_Value_Kind), .d (.int .i64 x_Value_N), .d (.str x_Value_S), .d (.sl (E.L_Value x_Value_L_l) (E.X_Value x_Value_L_x)), .d (.sl (E.L_Field x_Value_F_l) (E.X_Field x_Value_F_x)), .d (.int .u8 x_Value_Elem), .d (.str x_Value_Key), .d (.bool x_Value_HasKey)]
noncomputable def S : X.Sys := { fn := fnOf [(6, Try.f6), (17, Try.f17), (19, Try.f19), (24, Try.f24), (25, Try.f25), (26, Try.f26), (27, Try.f27), (28, Try.f28), (45, Try.f45), (51, Try.f51), (52, Try.f52), (53, Try.f53), (54, Try.f54), (65, Try.f65), (66, Try.f66)], tab := tab, foreign := fun _ => none }
end Go.Proofs.Ytamllgdaepjcfaa
