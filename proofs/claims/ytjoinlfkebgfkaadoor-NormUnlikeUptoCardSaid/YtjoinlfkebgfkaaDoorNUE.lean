/- Plain data, and how it lies in cells: printed by a small program. -/
import Derived.Test.YtjoinlfkebgfkaaDoorNUC
import Derived.Test.YtjoinlfkebgfkaaDoorXIto
namespace Go.Proofs.YtjoinlfkebgfkaaDoor
open Go Go.X
set_option linter.unusedVariables false
set_option linter.unusedSimpArgs false
set_option maxRecDepth 100000
mutual
inductive Value where
  | mk (Kind : Int) (N : Int) (S : ByteArray) (L : Sl Value) (F : Sl Field) (Elem : Int) (Key : ByteArray) (HasKey : Bool)
inductive Field where
  | mk (Name : ByteArray) (Value_ : Value)
end
structure Child where
  Key : ByteArray
  Kind : Int
  Name : ByteArray
  Value_ : Value
mutual
noncomputable def e_Value : Value → List D
  | .mk Kind N S L F Elem Key HasKey => [.int .u8 Kind] ++ [.int .i64 N] ++ [.str S] ++ [es_Value L] ++ [es_Field F] ++ [.int .u8 Elem] ++ [.str Key] ++ [.bool HasKey]
noncomputable def e_Field : Field → List D
  | .mk Name Value_ => [.str Name] ++ e_Value Value_
noncomputable def es_Value : Sl Value → D
  | .mk l x => .sl (el_Value l) (eo_Value x)
noncomputable def el_Value : List Value → List (List D)
  | [] => []
  | v :: r => e_Value v :: el_Value r
noncomputable def eo_Value : Option (List Value) → Option (List (List D))
  | none => none
  | some l => some (el_Value l)
noncomputable def es_Field : Sl Field → D
  | .mk l x => .sl (el_Field l) (eo_Field x)
noncomputable def el_Field : List Field → List (List D)
  | [] => []
  | v :: r => e_Field v :: el_Field r
noncomputable def eo_Field : Option (List Field) → Option (List (List D))
  | none => none
  | some l => some (el_Field l)
end
theorem el_Value_map : ∀ l, el_Value l = l.map e_Value
  | [] => rfl
  | v :: r => by rw [el_Value, el_Value_map r]; rfl
theorem eo_Value_map : ∀ x, eo_Value x = x.map (List.map e_Value)
  | none => rfl
  | some l => by rw [eo_Value, el_Value_map]; rfl
theorem el_Field_map : ∀ l, el_Field l = l.map e_Field
  | [] => rfl
  | v :: r => by rw [el_Field, el_Field_map r]; rfl
theorem eo_Field_map : ∀ x, eo_Field x = x.map (List.map e_Field)
  | none => rfl
  | some l => by rw [eo_Field, el_Field_map]; rfl
noncomputable def e_Child : Child → List D
  | ⟨Key, Kind, Name, Value_⟩ => [.str Key] ++ [.int .u8 Kind] ++ [.str Name] ++ e_Value Value_
structure Enc where
  L_Value : List Value → List (List D)
  X_Value : Option (List Value) → Option (List (List D))
  L_Field : List Field → List (List D)
  X_Field : Option (List Field) → Option (List (List D))
  L_i_i64 : List Int → List (List D)
  X_i_i64 : Option (List Int) → Option (List (List D))
  L_Child : List Child → List (List D)
  X_Child : Option (List Child) → Option (List (List D))
  M_str_bool : List (ByteArray × Bool) → List (PV × PV)
noncomputable def theEnc : Enc := { L_Value := el_Value, X_Value := eo_Value, L_Field := el_Field, X_Field := eo_Field, L_i_i64 := List.map (fun x => [.int .i64 x]), X_i_i64 := Option.map (List.map (fun x => [.int .i64 x])), L_Child := List.map (fun x => e_Child x), X_Child := Option.map (List.map (fun x => e_Child x)), M_str_bool := List.map (fun p => ((.d (.str p.1)), (.d (.bool p.2)))) }
def ce_Value (E : Enc) : Value → List D
  | ⟨x_a, x_b, x_c, ⟨x_dl, x_dx⟩, ⟨x_el, x_ex⟩, x_f, x_g, x_h⟩ => [.int .u8 x_a, .int .i64 x_b, .str x_c, .sl (E.L_Value x_dl) (E.X_Value x_dx), .sl (E.L_Field x_el) (E.X_Field x_ex), .int .u8 x_f, .str x_g, .bool x_h]
set_option maxHeartbeats 4000000 in
theorem ro_Value {E : Enc} (hE : theEnc = E) : RowsOf E.L_Value E.X_Value (ce_Value E) 8 := by
  subst hE
  have hc : ∀ x, e_Value x = ce_Value theEnc x := fun x => by obtain ⟨x_a, x_b, x_c, ⟨x_dl, x_dx⟩, ⟨x_el, x_ex⟩, x_f, x_g, x_h⟩ := x; first | rfl | (simp only [e_Value, e_Field, e_Child, es_Value, es_Field, ce_Value]; rfl)
  refine ⟨fun l => ?_, fun x => ?_, fun x => ?_⟩
  · exact (el_Value_map l).trans (congrArg (fun f => List.map f l) (funext hc))
  · exact (eo_Value_map x).trans (by rw [← funext el_Value_map]; rfl)
  · obtain ⟨x_a, x_b, x_c, ⟨x_dl, x_dx⟩, ⟨x_el, x_ex⟩, x_f, x_g, x_h⟩ := x; rfl
def ce_Field (E : Enc) : Field → List D
  | ⟨x_a, ⟨x_ba, x_bb, x_bc, ⟨x_bdl, x_bdx⟩, ⟨x_bel, x_bex⟩, x_bf, x_bg, x_bh⟩⟩ => [.str x_a, .int .u8 x_ba, .int .i64 x_bb, .str x_bc, .sl (E.L_Value x_bdl) (E.X_Value x_bdx), .sl (E.L_Field x_bel) (E.X_Field x_bex), .int .u8 x_bf, .str x_bg, .bool x_bh]
set_option maxHeartbeats 4000000 in
theorem ro_Field {E : Enc} (hE : theEnc = E) : RowsOf E.L_Field E.X_Field (ce_Field E) 9 := by
  subst hE
  have hc : ∀ x, e_Field x = ce_Field theEnc x := fun x => by obtain ⟨x_a, ⟨x_ba, x_bb, x_bc, ⟨x_bdl, x_bdx⟩, ⟨x_bel, x_bex⟩, x_bf, x_bg, x_bh⟩⟩ := x; first | rfl | (simp only [e_Value, e_Field, e_Child, es_Value, es_Field, ce_Field]; rfl)
  refine ⟨fun l => ?_, fun x => ?_, fun x => ?_⟩
  · exact (el_Field_map l).trans (congrArg (fun f => List.map f l) (funext hc))
  · exact (eo_Field_map x).trans (by rw [← funext el_Field_map]; rfl)
  · obtain ⟨x_a, ⟨x_ba, x_bb, x_bc, ⟨x_bdl, x_bdx⟩, ⟨x_bel, x_bex⟩, x_bf, x_bg, x_bh⟩⟩ := x; rfl
def ce_i_i64 (E : Enc) : Int → List D
  | x => [.int .i64 x]
set_option maxHeartbeats 4000000 in
theorem ro_i_i64 {E : Enc} (hE : theEnc = E) : RowsOf E.L_i_i64 E.X_i_i64 (ce_i_i64 E) 1 := by
  subst hE
  have hc : ∀ x, [.int .i64 x] = ce_i_i64 theEnc x := fun x => by first | rfl | (simp only [e_Value, e_Field, e_Child, es_Value, es_Field, ce_i_i64]; rfl)
  refine ⟨fun l => ?_, fun x => ?_, fun x => ?_⟩
  · exact congrArg (fun f => List.map f l) (funext hc)
  · rfl
  · rfl
def ce_Child (E : Enc) : Child → List D
  | ⟨x_a, x_b, x_c, ⟨x_da, x_db, x_dc, ⟨x_ddl, x_ddx⟩, ⟨x_del, x_dex⟩, x_df, x_dg, x_dh⟩⟩ => [.str x_a, .int .u8 x_b, .str x_c, .int .u8 x_da, .int .i64 x_db, .str x_dc, .sl (E.L_Value x_ddl) (E.X_Value x_ddx), .sl (E.L_Field x_del) (E.X_Field x_dex), .int .u8 x_df, .str x_dg, .bool x_dh]
set_option maxHeartbeats 4000000 in
theorem ro_Child {E : Enc} (hE : theEnc = E) : RowsOf E.L_Child E.X_Child (ce_Child E) 11 := by
  subst hE
  have hc : ∀ x, e_Child x = ce_Child theEnc x := fun x => by obtain ⟨x_a, x_b, x_c, ⟨x_da, x_db, x_dc, ⟨x_ddl, x_ddx⟩, ⟨x_del, x_dex⟩, x_df, x_dg, x_dh⟩⟩ := x; first | rfl | (simp only [e_Value, e_Field, e_Child, es_Value, es_Field, ce_Child]; rfl)
  refine ⟨fun l => ?_, fun x => ?_, fun x => ?_⟩
  · exact congrArg (fun f => List.map f l) (funext hc)
  · rfl
  · obtain ⟨x_a, x_b, x_c, ⟨x_da, x_db, x_dc, ⟨x_ddl, x_ddx⟩, ⟨x_del, x_dex⟩, x_df, x_dg, x_dh⟩⟩ := x; rfl
def kv_str_bool (E : Enc) : Bool → PV
  | x => .d (.bool x)
def kk_str_bool : ByteArray → PV
  | x => .d (.str x)
theorem mo_str_bool {E : Enc} (hE : theEnc = E) : MapsOf E.M_str_bool kk_str_bool (kv_str_bool E) := by
  subst hE
  refine ⟨fun l => ?_, fun x y => ?_⟩
  · show List.map _ l = List.map _ l
    congr 1
  · rfl
def pv_Value (E : Enc) : Value → PV
  | ⟨x_a, x_b, x_c, ⟨x_dl, x_dx⟩, ⟨x_el, x_ex⟩, x_f, x_g, x_h⟩ => .agg [.d (.int .u8 x_a), .d (.int .i64 x_b), .d (.str x_c), .d (.sl (E.L_Value x_dl) (E.X_Value x_dx)), .d (.sl (E.L_Field x_el) (E.X_Field x_ex)), .d (.int .u8 x_f), .d (.str x_g), .d (.bool x_h)]
def pv_Child (E : Enc) : Child → PV
  | ⟨x_a, x_b, x_c, ⟨x_da, x_db, x_dc, ⟨x_ddl, x_ddx⟩, ⟨x_del, x_dex⟩, x_df, x_dg, x_dh⟩⟩ => .agg [.d (.str x_a), .d (.int .u8 x_b), .d (.str x_c), .d (.int .u8 x_da), .d (.int .i64 x_db), .d (.str x_dc), .d (.sl (E.L_Value x_ddl) (E.X_Value x_ddx)), .d (.sl (E.L_Field x_del) (E.X_Field x_dex)), .d (.int .u8 x_df), .d (.str x_dg), .d (.bool x_dh)]
def pv_Field (E : Enc) : Field → PV
  | ⟨x_a, ⟨x_ba, x_bb, x_bc, ⟨x_bdl, x_bdx⟩, ⟨x_bel, x_bex⟩, x_bf, x_bg, x_bh⟩⟩ => .agg [.d (.str x_a), .d (.int .u8 x_ba), .d (.int .i64 x_bb), .d (.str x_bc), .d (.sl (E.L_Value x_bdl) (E.X_Value x_bdx)), .d (.sl (E.L_Field x_bel) (E.X_Field x_bex)), .d (.int .u8 x_bf), .d (.str x_bg), .d (.bool x_bh)]
def bx_3 (E : Enc) : Int → List PV
  | x => [.d (.int .i64 x)]
noncomputable def S : X.Sys := { fn := fnOf [(3, Tryd.f3), (4, Tryd.f4), (7, Tryd.f7), (8, Tryd.f8), (9, Tryd.f9), (10, Tryd.f10), (13, Tryd.f13), (14, Tryd.f14), (15, Tryd.f15), (16, Tryd.f16), (17, Tryd.f17), (18, Tryd.f18), (19, Tryd.f19), (20, Tryd.f20), (21, Tryd.f21), (22, Tryd.f22), (24, Tryd.f24), (25, Tryd.f25), (26, Tryd.f26), (27, Tryd.f27), (28, Tryd.f28), (33, Tryd.f33), (34, Tryd.f34), (35, Tryd.f35), (36, Tryd.f36), (37, Tryd.f37), (43, Tryd.f43), (44, Tryd.f44), (45, Tryd.f45)], tab := tab, foreign := pickOf [(6, closedF (.d (.bool true))), (23, itoaF)] }
end Go.Proofs.YtjoinlfkebgfkaaDoor
