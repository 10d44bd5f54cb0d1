/- Plain data, and how it lies in cells: printed by a small program. -/
import Derived.Test.YtipkggkbldgmjaaKCC
import Derived.Test.YtipkggkbldgmjaaXEval
namespace Go.Proofs.Ytipkggkbldgmjaa
open Go Go.X
set_option linter.unusedVariables false
set_option linter.unusedSimpArgs false
set_option maxRecDepth 100000
mutual
inductive Value where
  | mk (Kind : Int) (N : Int) (S : ByteArray) (L : Sl Value) (F : Sl Field) (Elem : Int) (Key : ByteArray) (HasKey : Bool)
inductive Field where
  | mk (Name : ByteArray) (Value_ : Value)
end
mutual
inductive Expr where
  | mk (Kind : Int) (N : Int) (S : ByteArray) (Args : Sl Expr) (Names : Sl ByteArray) (Vals : Sl Expr) (Elem : Int) (Key : Sl Expr) (Acts : Sl Act) (Site : ByteArray)
inductive Act where
  | mk (Kind : Int) (Name : ByteArray) (Expr_ : Expr)
end
structure Cell where
  Kind : Int
  Name : ByteArray
  Value_ : Value
  Next : Value
  Deps : Sl Value
  Do : Sl Act
  Undo : Sl Act
  Env : Sl Field
  Runs : Bool
  Ran : Bool
  Old : Sl Act
  Past : Sl Field
mutual
noncomputable def e_Value : Value → List D
  | .mk Kind N S L F Elem Key HasKey => [.int .u8 Kind] ++ [.int .i64 N] ++ [.str S] ++ [es_Value L] ++ [es_Field F] ++ [.int .u8 Elem] ++ [.str Key] ++ [.bool HasKey]
noncomputable def e_Field : Field → List D
  | .mk Name Value_ => [.str Name] ++ e_Value Value_
noncomputable def es_Value : Sl Value → D
  | .mk l x => .sl (el_Value l) (eo_Value x)
noncomputable def el_Value : List Value → List (List D)
  | [] => []
  | v :: r => e_Value v :: el_Value r
noncomputable def eo_Value : Option (List Value) → Option (List (List D))
  | none => none
  | some l => some (el_Value l)
noncomputable def es_Field : Sl Field → D
  | .mk l x => .sl (el_Field l) (eo_Field x)
noncomputable def el_Field : List Field → List (List D)
  | [] => []
  | v :: r => e_Field v :: el_Field r
noncomputable def eo_Field : Option (List Field) → Option (List (List D))
  | none => none
  | some l => some (el_Field l)
end
theorem el_Value_map : ∀ l, el_Value l = l.map e_Value
  | [] => rfl
  | v :: r => by rw [el_Value, el_Value_map r]; rfl
theorem eo_Value_map : ∀ x, eo_Value x = x.map (List.map e_Value)
  | none => rfl
  | some l => by rw [eo_Value, el_Value_map]; rfl
theorem el_Field_map : ∀ l, el_Field l = l.map e_Field
  | [] => rfl
  | v :: r => by rw [el_Field, el_Field_map r]; rfl
theorem eo_Field_map : ∀ x, eo_Field x = x.map (List.map e_Field)
  | none => rfl
  | some l => by rw [eo_Field, el_Field_map]; rfl
mutual
noncomputable def e_Expr : Expr → List D
  | .mk Kind N S Args Names Vals Elem Key Acts Site => [.int .u8 Kind] ++ [.int .i64 N] ++ [.str S] ++ [es_Expr Args] ++ [.sl (Names.l.map fun y => [.str y]) (Names.x.map (List.map fun y => [.str y]))] ++ [es_Expr Vals] ++ [.int .u8 Elem] ++ [es_Expr Key] ++ [es_Act Acts] ++ [.str Site]
noncomputable def e_Act : Act → List D
  | .mk Kind Name Expr_ => [.int .u8 Kind] ++ [.str Name] ++ e_Expr Expr_
noncomputable def es_Expr : Sl Expr → D
  | .mk l x => .sl (el_Expr l) (eo_Expr x)
noncomputable def el_Expr : List Expr → List (List D)
  | [] => []
  | v :: r => e_Expr v :: el_Expr r
noncomputable def eo_Expr : Option (List Expr) → Option (List (List D))
  | none => none
  | some l => some (el_Expr l)
noncomputable def es_Act : Sl Act → D
  | .mk l x => .sl (el_Act l) (eo_Act x)
noncomputable def el_Act : List Act → List (List D)
  | [] => []
  | v :: r => e_Act v :: el_Act r
noncomputable def eo_Act : Option (List Act) → Option (List (List D))
  | none => none
  | some l => some (el_Act l)
end
theorem el_Expr_map : ∀ l, el_Expr l = l.map e_Expr
  | [] => rfl
  | v :: r => by rw [el_Expr, el_Expr_map r]; rfl
theorem eo_Expr_map : ∀ x, eo_Expr x = x.map (List.map e_Expr)
  | none => rfl
  | some l => by rw [eo_Expr, el_Expr_map]; rfl
theorem el_Act_map : ∀ l, el_Act l = l.map e_Act
  | [] => rfl
  | v :: r => by rw [el_Act, el_Act_map r]; rfl
theorem eo_Act_map : ∀ x, eo_Act x = x.map (List.map e_Act)
  | none => rfl
  | some l => by rw [eo_Act, el_Act_map]; rfl
noncomputable def e_Cell : Cell → List D
  | ⟨Kind, Name, Value_, Next, Deps, Do, Undo, Env, Runs, Ran, Old, Past⟩ => [.int .u8 Kind] ++ [.str Name] ++ e_Value Value_ ++ e_Value Next ++ [es_Value Deps] ++ [es_Act Do] ++ [es_Act Undo] ++ [es_Field Env] ++ [.bool Runs] ++ [.bool Ran] ++ [es_Act Old] ++ [es_Field Past]
structure Enc where
  L_Cell : List Cell → List (List D)
  X_Cell : Option (List Cell) → Option (List (List D))
  L_Value : List Value → List (List D)
  X_Value : Option (List Value) → Option (List (List D))
  L_Field : List Field → List (List D)
  X_Field : Option (List Field) → Option (List (List D))
  L_Act : List Act → List (List D)
  X_Act : Option (List Act) → Option (List (List D))
  L_Expr : List Expr → List (List D)
  X_Expr : Option (List Expr) → Option (List (List D))
  L_str : List ByteArray → List (List D)
  X_str : Option (List ByteArray) → Option (List (List D))
noncomputable def theEnc : Enc := { L_Cell := List.map (fun x => e_Cell x), X_Cell := Option.map (List.map (fun x => e_Cell x)), L_Value := el_Value, X_Value := eo_Value, L_Field := el_Field, X_Field := eo_Field, L_Act := el_Act, X_Act := eo_Act, L_Expr := el_Expr, X_Expr := eo_Expr, L_str := List.map (fun x => [.str x]), X_str := Option.map (List.map (fun x => [.str x])) }
def ce_Cell (E : Enc) : Cell → List D
  | ⟨x_Kind, x_Name, ⟨x_Value__Kind, x_Value__N, x_Value__S, ⟨x_Value__L_l, x_Value__L_x⟩, ⟨x_Value__F_l, x_Value__F_x⟩, x_Value__Elem, x_Value__Key, x_Value__HasKey⟩, ⟨x_Next_Kind, x_Next_N, x_Next_S, ⟨x_Next_L_l, x_Next_L_x⟩, ⟨x_Next_F_l, x_Next_F_x⟩, x_Next_Elem, x_Next_Key, x_Next_HasKey⟩, ⟨x_Deps_l, x_Deps_x⟩, ⟨x_Do_l, x_Do_x⟩, ⟨x_Undo_l, x_Undo_x⟩, ⟨x_Env_l, x_Env_x⟩, x_Runs, x_Ran, ⟨x_Old_l, x_Old_x⟩, ⟨x_Past_l, x_Past_x⟩⟩ => [.int .u8 x_Kind, .str x_Name, .int .u8 x_Value__Kind, .int .i64 x_Value__N, .str x_Value__S, .sl (E.L_Value x_Value__L_l) (E.X_Value x_Value__L_x), .sl (E.L_Field x_Value__F_l) (E.X_Field x_Value__F_x), .int .u8 x_Value__Elem, .str x_Value__Key, .bool x_Value__HasKey, .int .u8 x_Next_Kind, .int .i64 x_Next_N, .str x_Next_S, .sl (E.L_Value x_Next_L_l) (E.X_Value x_Next_L_x), .sl (E.L_Field x_Next_F_l) (E.X_Field x_Next_F_x), .int .u8 x_Next_Elem, .str x_Next_Key, .bool x_Next_HasKey, .sl (E.L_Value x_Deps_l) (E.X_Value x_Deps_x), .sl (E.L_Act x_Do_l) (E.X_Act x_Do_x), .sl (E.L_Act x_Undo_l) (E.X_Act x_Undo_x), .sl (E.L_Field x_Env_l) (E.X_Field x_Env_x), .bool x_Runs, .bool x_Ran, .sl (E.L_Act x_Old_l) (E.X_Act x_Old_x), .sl (E.L_Field x_Past_l) (E.X_Field x_Past_x)]
set_option maxHeartbeats 4000000 in
theorem ro_Cell {E : Enc} (hE : theEnc = E) : RowsOf E.L_Cell E.X_Cell (ce_Cell E) 26 := by
  subst hE
  have hc : ∀ x, e_Cell x = ce_Cell theEnc x := fun x => by obtain ⟨x_Kind, x_Name, ⟨x_Value__Kind, x_Value__N, x_Value__S, ⟨x_Value__L_l, x_Value__L_x⟩, ⟨x_Value__F_l, x_Value__F_x⟩, x_Value__Elem, x_Value__Key, x_Value__HasKey⟩, ⟨x_Next_Kind, x_Next_N, x_Next_S, ⟨x_Next_L_l, x_Next_L_x⟩, ⟨x_Next_F_l, x_Next_F_x⟩, x_Next_Elem, x_Next_Key, x_Next_HasKey⟩, ⟨x_Deps_l, x_Deps_x⟩, ⟨x_Do_l, x_Do_x⟩, ⟨x_Undo_l, x_Undo_x⟩, ⟨x_Env_l, x_Env_x⟩, x_Runs, x_Ran, ⟨x_Old_l, x_Old_x⟩, ⟨x_Past_l, x_Past_x⟩⟩ := x; first | rfl | (simp only [e_Value, e_Cell, e_Field, e_Expr, e_Act, es_Field, es_Value, es_Act, es_Expr, ce_Cell]; rfl)
  refine ⟨fun l => ?_, fun x => ?_, fun x => ?_⟩
  · exact congrArg (fun f => List.map f l) (funext hc)
  · rfl
  · obtain ⟨x_Kind, x_Name, ⟨x_Value__Kind, x_Value__N, x_Value__S, ⟨x_Value__L_l, x_Value__L_x⟩, ⟨x_Value__F_l, x_Value__F_x⟩, x_Value__Elem, x_Value__Key, x_Value__HasKey⟩, ⟨x_Next_Kind, x_Next_N, x_Next_S, ⟨x_Next_L_l, x_Next_L_x⟩, ⟨x_Next_F_l, x_Next_F_x⟩, x_Next_Elem, x_Next_Key, x_Next_HasKey⟩, ⟨x_Deps_l, x_Deps_x⟩, ⟨x_Do_l, x_Do_x⟩, ⟨x_Undo_l, x_Undo_x⟩, ⟨x_Env_l, x_Env_x⟩, x_Runs, x_Ran, ⟨x_Old_l, x_Old_x⟩, ⟨x_Past_l, x_Past_x⟩⟩ := x; rfl
def ce_Value (E : Enc) : Value → List D
  | ⟨x_Kind, x_N, x_S, ⟨x_L_l, x_L_x⟩, ⟨x_F_l, x_F_x⟩, x_Elem, x_Key, x_HasKey⟩ => [.int .u8 x_Kind, .int .i64 x_N, .str x_S, .sl (E.L_Value x_L_l) (E.X_Value x_L_x), .sl (E.L_Field x_F_l) (E.X_Field x_F_x), .int .u8 x_Elem, .str x_Key, .bool x_HasKey]
set_option maxHeartbeats 4000000 in
theorem ro_Value {E : Enc} (hE : theEnc = E) : RowsOf E.L_Value E.X_Value (ce_Value E) 8 := by
  subst hE
  have hc : ∀ x, e_Value x = ce_Value theEnc x := fun x => by obtain ⟨x_Kind, x_N, x_S, ⟨x_L_l, x_L_x⟩, ⟨x_F_l, x_F_x⟩, x_Elem, x_Key, x_HasKey⟩ := x; first | rfl | (simp only [e_Value, e_Cell, e_Field, e_Expr, e_Act, es_Field, es_Value, es_Act, es_Expr, ce_Value]; rfl)
  refine ⟨fun l => ?_, fun x => ?_, fun x => ?_⟩
  · exact (el_Value_map l).trans (congrArg (fun f => List.map f l) (funext hc))
  · exact (eo_Value_map x).trans (by rw [← funext el_Value_map]; rfl)
  · obtain ⟨x_Kind, x_N, x_S, ⟨x_L_l, x_L_x⟩, ⟨x_F_l, x_F_x⟩, x_Elem, x_Key, x_HasKey⟩ := x; rfl
def ce_Field (E : Enc) : Field → List D
  | ⟨x_Name, ⟨x_Value__Kind, x_Value__N, x_Value__S, ⟨x_Value__L_l, x_Value__L_x⟩, ⟨x_Value__F_l, x_Value__F_x⟩, x_Value__Elem, x_Value__Key, x_Value__HasKey⟩⟩ => [.str x_Name, .int .u8 x_Value__Kind, .int .i64 x_Value__N, .str x_Value__S, .sl (E.L_Value x_Value__L_l) (E.X_Value x_Value__L_x), .sl (E.L_Field x_Value__F_l) (E.X_Field x_Value__F_x), .int .u8 x_Value__Elem, .str x_Value__Key, .bool x_Value__HasKey]
set_option maxHeartbeats 4000000 in
theorem ro_Field {E : Enc} (hE : theEnc = E) : RowsOf E.L_Field E.X_Field (ce_Field E) 9 := by
  subst hE
  have hc : ∀ x, e_Field x = ce_Field theEnc x := fun x => by obtain ⟨x_Name, ⟨x_Value__Kind, x_Value__N, x_Value__S, ⟨x_Value__L_l, x_Value__L_x⟩, ⟨x_Value__F_l, x_Value__F_x⟩, x_Value__Elem, x_Value__Key, x_Value__HasKey⟩⟩ := x; first | rfl | (simp only [e_Value, e_Cell, e_Field, e_Expr, e_Act, es_Field, es_Value, es_Act, es_Expr, ce_Field]; rfl)
  refine ⟨fun l => ?_, fun x => ?_, fun x => ?_⟩
  · exact (el_Field_map l).trans (congrArg (fun f => List.map f l) (funext hc))
  · exact (eo_Field_map x).trans (by rw [← funext el_Field_map]; rfl)
  · obtain ⟨x_Name, ⟨x_Value__Kind, x_Value__N, x_Value__S, ⟨x_Value__L_l, x_Value__L_x⟩, ⟨x_Value__F_l, x_Value__F_x⟩, x_Value__Elem, x_Value__Key, x_Value__HasKey⟩⟩ := x; rfl
def ce_Act (E : Enc) : Act → List D
  | ⟨x_Kind, x_Name, ⟨x_Expr__Kind, x_Expr__N, x_Expr__S, ⟨x_Expr__Args_l, x_Expr__Args_x⟩, ⟨x_Expr__Names_l, x_Expr__Names_x⟩, ⟨x_Expr__Vals_l, x_Expr__Vals_x⟩, x_Expr__Elem, ⟨x_Expr__Key_l, x_Expr__Key_x⟩, ⟨x_Expr__Acts_l, x_Expr__Acts_x⟩, x_Expr__Site⟩⟩ => [.int .u8 x_Kind, .str x_Name, .int .u8 x_Expr__Kind, .int .i64 x_Expr__N, .str x_Expr__S, .sl (E.L_Expr x_Expr__Args_l) (E.X_Expr x_Expr__Args_x), .sl (E.L_str x_Expr__Names_l) (E.X_str x_Expr__Names_x), .sl (E.L_Expr x_Expr__Vals_l) (E.X_Expr x_Expr__Vals_x), .int .u8 x_Expr__Elem, .sl (E.L_Expr x_Expr__Key_l) (E.X_Expr x_Expr__Key_x), .sl (E.L_Act x_Expr__Acts_l) (E.X_Act x_Expr__Acts_x), .str x_Expr__Site]
set_option maxHeartbeats 4000000 in
theorem ro_Act {E : Enc} (hE : theEnc = E) : RowsOf E.L_Act E.X_Act (ce_Act E) 12 := by
  subst hE
  have hc : ∀ x, e_Act x = ce_Act theEnc x := fun x => by obtain ⟨x_Kind, x_Name, ⟨x_Expr__Kind, x_Expr__N, x_Expr__S, ⟨x_Expr__Args_l, x_Expr__Args_x⟩, ⟨x_Expr__Names_l, x_Expr__Names_x⟩, ⟨x_Expr__Vals_l, x_Expr__Vals_x⟩, x_Expr__Elem, ⟨x_Expr__Key_l, x_Expr__Key_x⟩, ⟨x_Expr__Acts_l, x_Expr__Acts_x⟩, x_Expr__Site⟩⟩ := x; first | rfl | (simp only [e_Value, e_Cell, e_Field, e_Expr, e_Act, es_Field, es_Value, es_Act, es_Expr, ce_Act]; rfl)
  refine ⟨fun l => ?_, fun x => ?_, fun x => ?_⟩
  · exact (el_Act_map l).trans (congrArg (fun f => List.map f l) (funext hc))
  · exact (eo_Act_map x).trans (by rw [← funext el_Act_map]; rfl)
  · obtain ⟨x_Kind, x_Name, ⟨x_Expr__Kind, x_Expr__N, x_Expr__S, ⟨x_Expr__Args_l, x_Expr__Args_x⟩, ⟨x_Expr__Names_l, x_Expr__Names_x⟩, ⟨x_Expr__Vals_l, x_Expr__Vals_x⟩, x_Expr__Elem, ⟨x_Expr__Key_l, x_Expr__Key_x⟩, ⟨x_Expr__Acts_l, x_Expr__Acts_x⟩, x_Expr__Site⟩⟩ := x; rfl
def ce_Expr (E : Enc) : Expr → List D
  | ⟨x_Kind, x_N, x_S, ⟨x_Args_l, x_Args_x⟩, ⟨x_Names_l, x_Names_x⟩, ⟨x_Vals_l, x_Vals_x⟩, x_Elem, ⟨x_Key_l, x_Key_x⟩, ⟨x_Acts_l, x_Acts_x⟩, x_Site⟩ => [.int .u8 x_Kind, .int .i64 x_N, .str x_S, .sl (E.L_Expr x_Args_l) (E.X_Expr x_Args_x), .sl (E.L_str x_Names_l) (E.X_str x_Names_x), .sl (E.L_Expr x_Vals_l) (E.X_Expr x_Vals_x), .int .u8 x_Elem, .sl (E.L_Expr x_Key_l) (E.X_Expr x_Key_x), .sl (E.L_Act x_Acts_l) (E.X_Act x_Acts_x), .str x_Site]
set_option maxHeartbeats 4000000 in
theorem ro_Expr {E : Enc} (hE : theEnc = E) : RowsOf E.L_Expr E.X_Expr (ce_Expr E) 10 := by
  subst hE
  have hc : ∀ x, e_Expr x = ce_Expr theEnc x := fun x => by obtain ⟨x_Kind, x_N, x_S, ⟨x_Args_l, x_Args_x⟩, ⟨x_Names_l, x_Names_x⟩, ⟨x_Vals_l, x_Vals_x⟩, x_Elem, ⟨x_Key_l, x_Key_x⟩, ⟨x_Acts_l, x_Acts_x⟩, x_Site⟩ := x; first | rfl | (simp only [e_Value, e_Cell, e_Field, e_Expr, e_Act, es_Field, es_Value, es_Act, es_Expr, ce_Expr]; rfl)
  refine ⟨fun l => ?_, fun x => ?_, fun x => ?_⟩
  · exact (el_Expr_map l).trans (congrArg (fun f => List.map f l) (funext hc))
  · exact (eo_Expr_map x).trans (by rw [← funext el_Expr_map]; rfl)
  · obtain ⟨x_Kind, x_N, x_S, ⟨x_Args_l, x_Args_x⟩, ⟨x_Names_l, x_Names_x⟩, ⟨x_Vals_l, x_Vals_x⟩, x_Elem, ⟨x_Key_l, x_Key_x⟩, ⟨x_Acts_l, x_Acts_x⟩, x_Site⟩ := x; rfl
def ce_str (E : Enc) : ByteArray → List D
  | x => [.str x]
set_option maxHeartbeats 4000000 in
theorem ro_str {E : Enc} (hE : theEnc = E) : RowsOf E.L_str E.X_str (ce_str E) 1 := by
  subst hE
  have hc : ∀ x, [.str x] = ce_str theEnc x := fun x => by first | rfl | (simp only [e_Value, e_Cell, e_Field, e_Expr, e_Act, es_Field, es_Value, es_Act, es_Expr, ce_str]; rfl)
  refine ⟨fun l => ?_, fun x => ?_, fun x => ?_⟩
  · exact congrArg (fun f => List.map f l) (funext hc)
  · rfl
  · rfl
def pv_Value (E : Enc) : Value → PV
  | ⟨x_Kind, x_N, x_S, ⟨x_L_l, x_L_x⟩, ⟨x_F_l, x_F_x⟩, x_Elem, x_Key, x_HasKey⟩ => .agg [.d (.int .u8 x_Kind), .d (.int .i64 x_N), .d (.str x_S), .d (.sl (E.L_Value x_L_l) (E.X_Value x_L_x)), .d (.sl (E.L_Field x_F_l) (E.X_Field x_F_x)), .d (.int .u8 x_Elem), .d (.str x_Key), .d (.bool x_HasKey)]
def pv_Field (E : Enc) : Field → PV
  | ⟨x_Name, ⟨x_Value__Kind, x_Value__N, x_Value__S, ⟨x_Value__L_l, x_Value__L_x⟩, ⟨x_Value__F_l, x_Value__F_x⟩, x_Value__Elem, x_Value__Key, x_Value__HasKey⟩⟩ => .agg [.d (.str x_Name), .d (.int .u8 x_Value__Kind), .d (.int .i64 x_Value__N), .d (.str x_Value__S), .d (.sl (E.L_Value x_Value__L_l) (E.X_Value x_Value__L_x)), .d (.sl (E.L_Field x_Value__F_l) (E.X_Field x_Value__F_x)), .d (.int .u8 x_Value__Elem), .d (.str x_Value__Key), .d (.bool x_Value__HasKey)]
def pv_Cell (E : Enc) : Cell → PV
  | ⟨x_Kind, x_Name, ⟨x_Value__Kind, x_Value__N, x_Value__S, ⟨x_Value__L_l, x_Value__L_x⟩, ⟨x_Value__F_l, x_Value__F_x⟩, x_Value__Elem, x_Value__Key, x_Value__HasKey⟩, ⟨x_Next_Kind, x_Next_N, x_Next_S, ⟨x_Next_L_l, x_Next_L_x⟩, ⟨x_Next_F_l, x_Next_F_x⟩, x_Next_Elem, x_Next_Key, x_Next_HasKey⟩, ⟨x_Deps_l, x_Deps_x⟩, ⟨x_Do_l, x_Do_x⟩, ⟨x_Undo_l, x_Undo_x⟩, ⟨x_Env_l, x_Env_x⟩, x_Runs, x_Ran, ⟨x_Old_l, x_Old_x⟩, ⟨x_Past_l, x_Past_x⟩⟩ => .agg [.d (.int .u8 x_Kind), .d (.str x_Name), .d (.int .u8 x_Value__Kind), .d (.int .i64 x_Value__N), .d (.str x_Value__S), .d (.sl (E.L_Value x_Value__L_l) (E.X_Value x_Value__L_x)), .d (.sl (E.L_Field x_Value__F_l) (E.X_Field x_Value__F_x)), .d (.int .u8 x_Value__Elem), .d (.str x_Value__Key), .d (.bool x_Value__HasKey), .d (.int .u8 x_Next_Kind), .d (.int .i64 x_Next_N), .d (.str x_Next_S), .d (.sl (E.L_Value x_Next_L_l) (E.X_Value x_Next_L_x)), .d (.sl (E.L_Field x_Next_F_l) (E.X_Field x_Next_F_x)), .d (.int .u8 x_Next_Elem), .d (.str x_Next_Key), .d (.bool x_Next_HasKey), .d (.sl (E.L_Value x_Deps_l) (E.X_Value x_Deps_x)), .d (.sl (E.L_Act x_Do_l) (E.X_Act x_Do_x)), .d (.sl (E.L_Act x_Undo_l) (E.X_Act x_Undo_x)), .d (.sl (E.L_Field x_Env_l) (E.X_Field x_Env_x)), .d (.bool x_Runs), .d (.bool x_Ran), .d (.sl (E.L_Act x_Old_l) (E.X_Act x_Old_x)), .d (.sl (E.L_Field x_Past_l) (E.X_Field x_Past_x))]
def bx_22 (E : Enc) : Sl Field → List PV
  | ⟨x_l, x_x⟩ => [.d (.sl (E.L_Field x_l) (E.X_Field x_x))]
def bx_27 (E : Enc) : Value → List PV
  | ⟨x_Kind, x_N, x_S, ⟨x_L_l, x_L_x⟩, ⟨x_F_l, x_F_x⟩, x_Elem, x_Key, x_HasKey⟩ => [.d (.int .u8 x_Kind), .d (.int .i64 x_N), .d (.str x_S), .d (.sl (E.L_Value x_L_l) (E.X_Value x_L_x)), .d (.sl (E.L_Field x_F_l) (E.X_Field x_F_x)), .d (.int .u8 x_Elem), .d (.str x_Key), .d (.bool x_HasKey)]
noncomputable def S : X.Sys := { fn := fnOf [(4, Try.f4), (9, Try.f9), (11, Try.f11), (12, Try.f12), (24, Try.f24), (26, Try.f26), (29, Try.f29), (30, Try.f30), (31, Try.f31), (32, Try.f32), (33, Try.f33), (34, Try.f34), (36, Try.f36), (48, Try.f48), (49, Try.f49), (50, Try.f50), (52, Try.f52), (53, Try.f53), (54, Try.f54), (55, Try.f55), (56, Try.f56), (69, Try.f69), (70, Try.f70), (71, Try.f71), (72, Try.f72), (73, Try.f73)], tab := tab, foreign := pickOf [(10, closedF (.d (.bool true)))] }
end Go.Proofs.Ytipkggkbldgmjaa
