/- Plain data, and how it lies in cells: printed by a small program. -/
import Derived.Test.YtdmpjlpkmokllaaDoorVEC
import Derived.Test.YtdmpjlpkmokllaaDoorXEval
namespace Go.Proofs.YtdmpjlpkmokllaaDoor
open Go Go.X
set_option linter.unusedVariables false
set_option linter.unusedSimpArgs false
set_option maxRecDepth 100000
mutual
inductive Value where
  | mk (Kind : Int) (N : Int) (S : ByteArray) (L : Sl Value) (F : Sl Field) (Elem : Int) (Key : ByteArray) (HasKey : Bool)
inductive Field where
  | mk (Name : ByteArray) (Value_ : Value)
end
mutual
noncomputable def e_Value : Value → List D
  | .mk Kind N S L F Elem Key HasKey => [.int .u8 Kind] ++ [.int .i64 N] ++ [.str S] ++ [es_Value L] ++ [es_Field F] ++ [.int .u8 Elem] ++ [.str Key] ++ [.bool HasKey]
noncomputable def e_Field : Field → List D
  | .mk Name Value_ => [.str Name] ++ e_Value Value_
noncomputable def es_Value : Sl Value → D
  | .mk l x => .sl (el_Value l) (eo_Value x)
noncomputable def el_Value : List Value → List (List D)
  | [] => []
  | v :: r => e_Value v :: el_Value r
noncomputable def eo_Value : Option (List Value) → Option (List (List D))
  | none => none
  | some l => some (el_Value l)
noncomputable def es_Field : Sl Field → D
  | .mk l x => .sl (el_Field l) (eo_Field x)
noncomputable def el_Field : List Field → List (List D)
  | [] => []
  | v :: r => e_Field v :: el_Field r
noncomputable def eo_Field : Option (List Field) → Option (List (List D))
  | none => none
  | some l => some (el_Field l)
end
theorem el_Value_map : ∀ l, el_Value l = l.map e_Value
  | [] => rfl
  | v :: r => by rw [el_Value, el_Value_map r]; rfl
theorem eo_Value_map : ∀ x, eo_Value x = x.map (List.map e_Value)
  | none => rfl
  | some l => by rw [eo_Value, el_Value_map]; rfl
theorem el_Field_map : ∀ l, el_Field l = l.map e_Field
  | [] => rfl
  | v :: r => by rw [el_Field, el_Field_map r]; rfl
theorem eo_Field_map : ∀ x, eo_Field x = x.map (List.map e_Field)
  | none => rfl
  | some l => by rw [eo_Field, el_Field_map]; rfl
structure Enc where
  L_Value : List Value → List (List D)
  X_Value : Option (List Value) → Option (List (List D))
  L_Field : List Field → List (List D)
  X_Field : Option (List Field) → Option (List (List D))
  L_i_i64 : List Int → List (List D)
  X_i_i64 : Option (List Int) → Option (List (List D))
  L_str : List ByteArray → List (List D)
  X_str : Option (List ByteArray) → Option (List (List D))
  L_i_u8 : List Int → List (List D)
  X_i_u8 : Option (List Int) → Option (List (List D))
noncomputable def theEnc : Enc := { L_Value := el_Value, X_Value := eo_Value, L_Field := el_Field, X_Field := eo_Field, L_i_i64 := List.map (fun x => [.int .i64 x]), X_i_i64 := Option.map (List.map (fun x => [.int .i64 x])), L_str := List.map (fun x => [.str x]), X_str := Option.map (List.map (fun x => [.str x])), L_i_u8 := List.map (fun x => [.int .u8 x]), X_i_u8 := Option.map (List.map (fun x => [.int .u8 x])) }
def ce_Value (E : Enc) : Value → List D
  | ⟨x_a, x_b, x_c, ⟨x_dl, x_dx⟩, ⟨x_el, x_ex⟩, x_f, x_g, x_h⟩ => [.int .u8 x_a, .int .i64 x_b, .str x_c, .sl (E.L_Value x_dl) (E.X_Value x_dx), .sl (E.L_Field x_el) (E.X_Field x_ex), .int .u8 x_f, .str x_g, .bool x_h]
set_option maxHeartbeats 4000000 in
theorem ro_Value {E : Enc} (hE : theEnc = E) : RowsOf E.L_Value E.X_Value (ce_Value E) 8 := by
  subst hE
  have hc : ∀ x, e_Value x = ce_Value theEnc x := fun x => by obtain ⟨x_a, x_b, x_c, ⟨x_dl, x_dx⟩, ⟨x_el, x_ex⟩, x_f, x_g, x_h⟩ := x; first | rfl | (simp only [e_Value, e_Field, es_Value, es_Field, ce_Value]; rfl)
  refine ⟨fun l => ?_, fun x => ?_, fun x => ?_⟩
  · exact (el_Value_map l).trans (congrArg (fun f => List.map f l) (funext hc))
  · exact (eo_Value_map x).trans (by rw [← funext el_Value_map]; rfl)
  · obtain ⟨x_a, x_b, x_c, ⟨x_dl, x_dx⟩, ⟨x_el, x_ex⟩, x_f, x_g, x_h⟩ := x; rfl
def ce_Field (E : Enc) : Field → List D
  | ⟨x_a, ⟨x_ba, x_bb, x_bc, ⟨x_bdl, x_bdx⟩, ⟨x_bel, x_bex⟩, x_bf, x_bg, x_bh⟩⟩ => [.str x_a, .int .u8 x_ba, .int .i64 x_bb, .str x_bc, .sl (E.L_Value x_bdl) (E.X_Value x_bdx), .sl (E.L_Field x_bel) (E.X_Field x_bex), .int .u8 x_bf, .str x_bg, .bool x_bh]
set_option maxHeartbeats 4000000 in
theorem ro_Field {E : Enc} (hE : theEnc = E) : RowsOf E.L_Field E.X_Field (ce_Field E) 9 := by
  subst hE
  have hc : ∀ x, e_Field x = ce_Field theEnc x := fun x => by obtain ⟨x_a, ⟨x_ba, x_bb, x_bc, ⟨x_bdl, x_bdx⟩, ⟨x_bel, x_bex⟩, x_bf, x_bg, x_bh⟩⟩ := x; first | rfl | (simp only [e_Value, e_Field, es_Value, es_Field, ce_Field]; rfl)
  refine ⟨fun l => ?_, fun x => ?_, fun x => ?_⟩
  · exact (el_Field_map l).trans (congrArg (fun f => List.map f l) (funext hc))
  · exact (eo_Field_map x).trans (by rw [← funext el_Field_map]; rfl)
  · obtain ⟨x_a, ⟨x_ba, x_bb, x_bc, ⟨x_bdl, x_bdx⟩, ⟨x_bel, x_bex⟩, x_bf, x_bg, x_bh⟩⟩ := x; rfl
def ce_i_i64 (E : Enc) : Int → List D
  | x => [.int .i64 x]
set_option maxHeartbeats 4000000 in
theorem ro_i_i64 {E : Enc} (hE : theEnc = E) : RowsOf E.L_i_i64 E.X_i_i64 (ce_i_i64 E) 1 := by
  subst hE
  have hc : ∀ x, [.int .i64 x] = ce_i_i64 theEnc x := fun x => by first | rfl | (simp only [e_Value, e_Field, es_Value, es_Field, ce_i_i64]; rfl)
  refine ⟨fun l => ?_, fun x => ?_, fun x => ?_⟩
  · exact congrArg (fun f => List.map f l) (funext hc)
  · rfl
  · rfl
def ce_str (E : Enc) : ByteArray → List D
  | x => [.str x]
set_option maxHeartbeats 4000000 in
theorem ro_str {E : Enc} (hE : theEnc = E) : RowsOf E.L_str E.X_str (ce_str E) 1 := by
  subst hE
  have hc : ∀ x, [.str x] = ce_str theEnc x := fun x => by first | rfl | (simp only [e_Value, e_Field, es_Value, es_Field, ce_str]; rfl)
  refine ⟨fun l => ?_, fun x => ?_, fun x => ?_⟩
  · exact congrArg (fun f => List.map f l) (funext hc)
  · rfl
  · rfl
def ce_i_u8 (E : Enc) : Int → List D
  | x => [.int .u8 x]
set_option maxHeartbeats 4000000 in
theorem ro_i_u8 {E : Enc} (hE : theEnc = E) : RowsOf E.L_i_u8 E.X_i_u8 (ce_i_u8 E) 1 := by
  subst hE
  have hc : ∀ x, [.int .u8 x] = ce_i_u8 theEnc x := fun x => by first | rfl | (simp only [e_Value, e_Field, es_Value, es_Field, ce_i_u8]; rfl)
  refine ⟨fun l => ?_, fun x => ?_, fun x => ?_⟩
  · exact congrArg (fun f => List.map f l) (funext hc)
  · rfl
  · rfl
def pv_Value (E : Enc) : Value → PV
  | ⟨x_a, x_b, x_c, ⟨x_dl, x_dx⟩, ⟨x_el, x_ex⟩, x_f, x_g, x_h⟩ => .agg [.d (.int .u8 x_a), .d (.int .i64 x_b), .d (.str x_c), .d (.sl (E.L_Value x_dl) (E.X_Value x_dx)), .d (.sl (E.L_Field x_el) (E.X_Field x_ex)), .d (.int .u8 x_f), .d (.str x_g), .d (.bool x_h)]
def pv_Field (E : Enc) : Field → PV
  | ⟨x_a, ⟨x_ba, x_bb, x_bc, ⟨x_bdl, x_bdx⟩, ⟨x_bel, x_bex⟩, x_bf, x_bg, x_bh⟩⟩ => .agg [.d (.str x_a), .d (.int .u8 x_ba), .d (.int .i64 x_bb), .d (.str x_bc), .d (.sl (E.L_Value x_bdl) (E.X_Value x_bdx)), .d (.sl (E.L_Field x_bel) (E.X_Field x_bex)), .d (.int .u8 x_bf), .d (.str x_bg), .d (.bool x_bh)]
def bx_3 (E : Enc) : Int → List PV
  | x => [.d (.int .i64 x)]
def bx_4 (E : Enc) : Bool → List PV
  | x => [.d (.bool x)]
noncomputable def S : X.Sys := { fn := fnOf [(6, Tryd.f6), (13, Tryd.f13), (14, Tryd.f14), (15, Tryd.f15), (17, Tryd.f17), (21, Tryd.f21), (22, Tryd.f22), (27, Tryd.f27), (32, Tryd.f32), (33, Tryd.f33), (34, Tryd.f34), (35, Tryd.f35), (38, Tryd.f38), (39, Tryd.f39), (42, Tryd.f42), (43, Tryd.f43), (49, Tryd.f49), (50, Tryd.f50), (51, Tryd.f51), (52, Tryd.f52), (53, Tryd.f53), (54, Tryd.f54), (62, Tryd.f62), (63, Tryd.f63), (64, Tryd.f64), (84, Tryd.f84), (85, Tryd.f85), (86, Tryd.f86), (87, Tryd.f87)], tab := tab, foreign := pickOf [(12, closedF (.d (.bool true)))] }
end Go.Proofs.YtdmpjlpkmokllaaDoor
