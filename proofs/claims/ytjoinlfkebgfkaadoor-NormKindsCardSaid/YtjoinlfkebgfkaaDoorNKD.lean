/- Functions on plain data: printed by a small program. -/
import Derived.Test.YtjoinlfkebgfkaaDoorNKE
namespace Go.Proofs.YtjoinlfkebgfkaaDoor
open Go Go.X
set_option linter.unusedVariables false
set_option linter.unusedSimpArgs false
set_option maxRecDepth 100000
/-- tapestry/norm.Alike -/
noncomputable def P11 (fu : Nat) (a0 : Child) (a1 : Child) : Option (Bool) :=
  match a0 with
  | ⟨a0_Key, a0_Kind, a0_Name, ⟨a0_Value__Kind, a0_Value__N, a0_Value__S, ⟨a0_Value__L_l, a0_Value__L_x⟩, ⟨a0_Value__F_l, a0_Value__F_x⟩, a0_Value__Elem, a0_Value__Key, a0_Value__HasKey⟩⟩ =>
    match a1 with
    | ⟨a1_Key, a1_Kind, a1_Name, ⟨a1_Value__Kind, a1_Value__N, a1_Value__S, ⟨a1_Value__L_l, a1_Value__L_x⟩, ⟨a1_Value__F_l, a1_Value__F_x⟩, a1_Value__Elem, a1_Value__Key, a1_Value__HasKey⟩⟩ =>
      (
        bif a0_Kind == a1_Kind then
          some (seq a0_Name a1_Name)
        else
          some false
      ).bind fun (q : Bool) =>
        match q with
        | i2 =>
          some i2
/-- tapestry/tapestrylaw07.alive -/
noncomputable def P6 (fu : Nat) : Option (Bool) :=
  some true
/-- tapestry/tapestrylaw07.NormKinds -/
noncomputable def P5 (fu : Nat) (a0 : Child) (a1 : Child) (a2 : Child) : Option (Bool) :=
  match a0 with
  | ⟨a0_Key, a0_Kind, a0_Name, ⟨a0_Value__Kind, a0_Value__N, a0_Value__S, ⟨a0_Value__L_l, a0_Value__L_x⟩, ⟨a0_Value__F_l, a0_Value__F_x⟩, a0_Value__Elem, a0_Value__Key, a0_Value__HasKey⟩⟩ =>
    match a1 with
    | ⟨a1_Key, a1_Kind, a1_Name, ⟨a1_Value__Kind, a1_Value__N, a1_Value__S, ⟨a1_Value__L_l, a1_Value__L_x⟩, ⟨a1_Value__F_l, a1_Value__F_x⟩, a1_Value__Elem, a1_Value__Key, a1_Value__HasKey⟩⟩ =>
      match a2 with
      | ⟨a2_Key, a2_Kind, a2_Name, ⟨a2_Value__Kind, a2_Value__N, a2_Value__S, ⟨a2_Value__L_l, a2_Value__L_x⟩, ⟨a2_Value__F_l, a2_Value__F_x⟩, a2_Value__Elem, a2_Value__Key, a2_Value__HasKey⟩⟩ =>
        (P11 fu (Child.mk a0_Key a0_Kind a0_Name (Value.mk a0_Value__Kind a0_Value__N a0_Value__S (Sl.mk a0_Value__L_l a0_Value__L_x) (Sl.mk a0_Value__F_l a0_Value__F_x) a0_Value__Elem a0_Value__Key a0_Value__HasKey)) (Child.mk a1_Key a1_Kind a1_Name (Value.mk a1_Value__Kind a1_Value__N a1_Value__S (Sl.mk a1_Value__L_l a1_Value__L_x) (Sl.mk a1_Value__F_l a1_Value__F_x) a1_Value__Elem a1_Value__Key a1_Value__HasKey))).bind fun r1 =>
          (P11 fu (Child.mk a1_Key a1_Kind a1_Name (Value.mk a1_Value__Kind a1_Value__N a1_Value__S (Sl.mk a1_Value__L_l a1_Value__L_x) (Sl.mk a1_Value__F_l a1_Value__F_x) a1_Value__Elem a1_Value__Key a1_Value__HasKey)) (Child.mk a2_Key a2_Kind a2_Name (Value.mk a2_Value__Kind a2_Value__N a2_Value__S (Sl.mk a2_Value__L_l a2_Value__L_x) (Sl.mk a2_Value__F_l a2_Value__F_x) a2_Value__Elem a2_Value__Key a2_Value__HasKey))).bind fun r3 =>
            (P11 fu (Child.mk a0_Key a0_Kind a0_Name (Value.mk a0_Value__Kind a0_Value__N a0_Value__S (Sl.mk a0_Value__L_l a0_Value__L_x) (Sl.mk a0_Value__F_l a0_Value__F_x) a0_Value__Elem a0_Value__Key a0_Value__HasKey)) (Child.mk a2_Key a2_Kind a2_Name (Value.mk a2_Value__Kind a2_Value__N a2_Value__S (Sl.mk a2_Value__L_l a2_Value__L_x) (Sl.mk a2_Value__F_l a2_Value__F_x) a2_Value__Elem a2_Value__Key a2_Value__HasKey))).bind fun r5 =>
              (
                (P6 fu).bind fun r7 =>
                  bif r7 then
                    (P11 fu (Child.mk a0_Key a0_Kind a0_Name (Value.mk a0_Value__Kind a0_Value__N a0_Value__S (Sl.mk a0_Value__L_l a0_Value__L_x) (Sl.mk a0_Value__F_l a0_Value__F_x) a0_Value__Elem a0_Value__Key a0_Value__HasKey)) (Child.mk a0_Key a0_Kind a0_Name (Value.mk a0_Value__Kind a0_Value__N a0_Value__S (Sl.mk a0_Value__L_l a0_Value__L_x) (Sl.mk a0_Value__F_l a0_Value__F_x) a0_Value__Elem a0_Value__Key a0_Value__HasKey))).bind fun r10 =>
                      bif r10 then
                        (P11 fu (Child.mk a1_Key a1_Kind a1_Name (Value.mk a1_Value__Kind a1_Value__N a1_Value__S (Sl.mk a1_Value__L_l a1_Value__L_x) (Sl.mk a1_Value__F_l a1_Value__F_x) a1_Value__Elem a1_Value__Key a1_Value__HasKey)) (Child.mk a0_Key a0_Kind a0_Name (Value.mk a0_Value__Kind a0_Value__N a0_Value__S (Sl.mk a0_Value__L_l a0_Value__L_x) (Sl.mk a0_Value__F_l a0_Value__F_x) a0_Value__Elem a0_Value__Key a0_Value__HasKey))).bind fun r13 =>
                          bif r13 == r1 then
                            bif !(!r1) then
                              bif !(!r3) then
                                bif r5 then
                                  (P11 fu (Child.mk a0_Key a0_Kind a0_Name (Value.mk a0_Value__Kind a0_Value__N a0_Value__S (Sl.mk a0_Value__L_l a0_Value__L_x) (Sl.mk a0_Value__F_l a0_Value__F_x) a0_Value__Elem a0_Value__Key a0_Value__HasKey)) (Child.mk a2_Key a0_Kind a0_Name (Value.mk a2_Value__Kind a2_Value__N a2_Value__S (Sl.mk a2_Value__L_l a2_Value__L_x) (Sl.mk a2_Value__F_l a2_Value__F_x) a2_Value__Elem a2_Value__Key a2_Value__HasKey))).bind fun r19 =>
                                    some r19
                                else
                                  some false
                              else
                                (P11 fu (Child.mk a0_Key a0_Kind a0_Name (Value.mk a0_Value__Kind a0_Value__N a0_Value__S (Sl.mk a0_Value__L_l a0_Value__L_x) (Sl.mk a0_Value__F_l a0_Value__F_x) a0_Value__Elem a0_Value__Key a0_Value__HasKey)) (Child.mk a2_Key a0_Kind a0_Name (Value.mk a2_Value__Kind a2_Value__N a2_Value__S (Sl.mk a2_Value__L_l a2_Value__L_x) (Sl.mk a2_Value__F_l a2_Value__F_x) a2_Value__Elem a2_Value__Key a2_Value__HasKey))).bind fun r21 =>
                                  some r21
                            else
                              (P11 fu (Child.mk a0_Key a0_Kind a0_Name (Value.mk a0_Value__Kind a0_Value__N a0_Value__S (Sl.mk a0_Value__L_l a0_Value__L_x) (Sl.mk a0_Value__F_l a0_Value__F_x) a0_Value__Elem a0_Value__Key a0_Value__HasKey)) (Child.mk a2_Key a0_Kind a0_Name (Value.mk a2_Value__Kind a2_Value__N a2_Value__S (Sl.mk a2_Value__L_l a2_Value__L_x) (Sl.mk a2_Value__F_l a2_Value__F_x) a2_Value__Elem a2_Value__Key a2_Value__HasKey))).bind fun r23 =>
                                some r23
                          else
                            some false
                      else
                        some false
                  else
                    some false
              ).bind fun (q : Bool) =>
                match q with
                | i25 =>
                  some i25
end Go.Proofs.YtjoinlfkebgfkaaDoor
