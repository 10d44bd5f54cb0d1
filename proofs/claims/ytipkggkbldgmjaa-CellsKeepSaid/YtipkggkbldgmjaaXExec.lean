/- A body: what the interpreter says is what the machine does. -/
import Derived.Test.YtipkggkbldgmjaaXAny
import Derived.Test.YtipkggkbldgmjaaXTrim
namespace Go.X
open Go
set_option linter.unusedSectionVars false
set_option linter.unusedSimpArgs false
set_option linter.unusedVariables false

def Ex.to : Ex → Exit
  | .normal => .normal
  | .exit id => .exit id
  | .ret => .ret
def Post {R : Type} (n : Nat) (m : Mt) (w : World) (K : Ex → Env → St → Option R) (r : R) : Exit → Act → World → Prop := fun x a' w' =>
  ∃ e ρ' st' m', x = Ex.to e ∧ K e ρ' st' = some r ∧ EnvRel m' w' ρ' a' ∧ Ext m w m' w' ∧ WRel m' st' w' ∧ n ≤ a'.tmps.size ∧ a'.defers = []

section
variable {P : Program} {Γ : Tab} {c : CF} (hok : OpsOK P Γ c) (hm : P.follows .mixedOrders = true) {an : Ann} {n : Nat}
include hok hm
theorem exec_sound : ∀ (co : Code), codeOK n co = true → ∀ {R : Type} {K : Ex → Env → St → Option R} {r : R} {ρ : Env} {st : St} {a : Act} {w : World} {m : Mt},
    EnvRel m w ρ a → WRel m st w → n ≤ a.tmps.size → a.defers = [] → exec (real c) Γ an co ρ st K = some r → co.wp P (Post n m w K r) a w := by
  intro co
  induction co with
  | label | goto | refuse | scope | rangeFunc => intro _ R K r ρ st a w m he hw hn hd hr; simp [exec] at hr
  | skip =>
    intro _ R K r ρ st a w m he hw hn hd hr
    simp only [exec] at hr
    exact wp_skip ⟨.normal, ρ, st, m, rfl, hr, he, Ext.refl m w, hw, hn, hd⟩
  | exit id =>
    intro _ R K r ρ st a w m he hw hn hd hr
    simp only [exec] at hr
    exact wp_exit ⟨.exit id, ρ, st, m, rfl, hr, he, Ext.refl m w, hw, hn, hd⟩
  | ret =>
    intro _ R K r ρ st a w m he hw hn hd hr
    simp only [exec] at hr
    exact wp_ret ⟨.ret, ρ, st, m, rfl, hr, he, Ext.refl m w, hw, hn, hd⟩
  | region id ops dr =>
    intro hc R K r ρ st a w m he hw hn hd hr
    simp only [exec] at hr
    simp only [codeOK, Bool.and_eq_true, Bool.or_eq_true, Bool.not_eq_true', List.all_eq_true] at hc
    have hQ : ∀ ρ' st' a' w' m', K .normal (keepOnly an.keep ρ') st' = some r → EnvRel m' w' ρ' a' → Ext m w m' w' → WRel m' st' w' → n ≤ a'.tmps.size → a'.defers = a.defers → Post n m w K r .normal a' w' := by
      intro ρ' st' a' w' m' h1 h2 h3 h4 h5 h6
      exact ⟨.normal, _, st', m', rfl, h1, (egt_keepOnly an.keep ρ').rel h2, h3, h4, h5, by rw [h6, hd]⟩
    cases dr with
    | false => exact wp_region_list (runOps_list hok ops.toList 0 ρ st a w m hc.1 he hw hn hr hQ)
    | true => exact runOps_drawn hok hm (by simpa using hc.2) hc.1 he hw hn hr hQ
  | seq x y ihx ihy =>
    intro hc R K r ρ st a w m he hw hn hd hr
    simp only [exec] at hr
    simp only [codeOK, Bool.and_eq_true] at hc
    refine wp_seq (wp_mono (ihx hc.1 he hw hn hd hr) ?_)
    rintro e' a' w' ⟨e, ρ', st', m', rfl, h1, h2, h3, h4, h5, h6⟩
    cases e with
    | normal =>
      simp only [Ex.to, Exit.then]
      refine wp_mono (ihy hc.2 h2 h4 h5 h6 h1) ?_
      rintro e' a'' w'' ⟨e, ρ'', st'', m'', rfl, k1, k2, k3, k4, k5, k6⟩
      exact ⟨e, ρ'', st'', m'', rfl, k1, k2, h3.trans k3, k4, k5, k6⟩
    | exit id => exact ⟨.exit id, ρ', st', m', rfl, h1, h2, h3, h4, h5, h6⟩
    | ret => exact ⟨.ret, ρ', st', m', rfl, h1, h2, h3, h4, h5, h6⟩
  | cond x y z ihy ihz =>
    intro hc R K r ρ st a w m he hw hn hd hr
    simp only [exec] at hr
    simp only [codeOK, Bool.and_eq_true] at hc
    split at hr
    · rename_i t
      have hrel := he t
      split at hr
      · rename_i b hb
        rw [hb] at hrel; simp only [VRel, DRel] at hrel
        rw [real_grp] at hr
        have fin_ : ∀ x' a' w', Post n m w (fun e ρ' st' => (fun r => K r.1 r.2.1 r.2.2) (e, keepOnly (keys ρ) ρ', trim (real c).plain (numO st 0) (keepOnly (keys ρ) ρ') st')) r x' a' w' → Post n m w K r x' a' w' := by
          rintro x' a' w' ⟨e, ρ', st', m', rfl, h1, h2, h3, h4, h5, h6⟩
          obtain ⟨m2, g1, g2, g3⟩ := trim_rel (n := numO st 0) h3 (by rw [num0_st hw]; exact Nat.le_refl _) h4 ((egt_keepOnly (keys ρ) ρ').rel h2)
          exact ⟨e, _, _, m2, rfl, h1, g3, g1, g2, h5, h6⟩
        cases b with
        | true => exact wp_mono (wp_cond_true (c := .tmp t) hrel (ihy hc.1 (condE_rel he hb) hw hn hd hr)) fin_
        | false => exact wp_mono (wp_cond_false (c := .tmp t) hrel (ihz hc.2 (condE_rel he hb) hw hn hd hr)) fin_
      · rename_i hb
        rw [hb] at hrel; simp only [VRel] at hrel
        obtain ⟨b, hrel⟩ := hrel
        have he' := (egt_del ρ t).rel he
        obtain ⟨hr1, hr2⟩ := agree_some hr
        have fin_ : ∀ x' a' w', Post n m w (fun e ρ' st' => K e (keepOnly (keys ρ) ρ') (trim (real c).plain (numO st 0) (keepOnly (keys ρ) ρ') st')) r x' a' w' → Post n m w K r x' a' w' := by
          rintro x' a' w' ⟨e, ρ', st', m', rfl, h1, h2, h3, h4, h5, h6⟩
          obtain ⟨m2, g1, g2, g3⟩ := trim_rel (n := numO st 0) h3 (by rw [num0_st hw]; exact Nat.le_refl _) h4 ((egt_keepOnly (keys ρ) ρ').rel h2)
          exact ⟨e, _, _, m2, rfl, h1, g3, g1, g2, h5, h6⟩
        cases b with
        | true => exact wp_mono (wp_cond_true (c := .tmp t) hrel (ihy hc.1 he' hw hn hd hr1)) fin_
        | false => exact wp_mono (wp_cond_false (c := .tmp t) hrel (ihz hc.2 he' hw hn hd hr2)) fin_
      · cases hr
    · cases hr
  | block id x ihx =>
    intro hc R K r ρ st a w m he hw hn hd hr
    simp only [exec] at hr
    simp only [codeOK] at hc
    refine wp_block (wp_mono (ihx hc he hw hn hd hr) ?_)
    rintro e' a' w' ⟨e, ρ', st', m', rfl, h1, h2, h3, h4, h5, h6⟩
    cases e with
    | normal => exact ⟨.normal, ρ', st', m', rfl, h1, h2, h3, h4, h5, h6⟩
    | ret => exact ⟨.ret, ρ', st', m', rfl, h1, h2, h3, h4, h5, h6⟩
    | exit i =>
      simp only [Ex.to, Exit.inBlock]
      dsimp only at h1
      cases hb : Nat.beq i id with
      | true =>
        have := Nat.eq_of_beq_eq_true hb
        rw [if_pos this]
        rw [hb] at h1
        exact ⟨.normal, ρ', st', m', rfl, h1, h2, h3, h4, h5, h6⟩
      | false =>
        have : i ≠ id := fun h => by subst h; rw [nbeq_self] at hb; cases hb
        rw [if_neg this]
        rw [hb] at h1
        exact ⟨.exit i, ρ', st', m', rfl, h1, h2, h3, h4, h5, h6⟩
  | loop x ihx =>
    intro hc R K r ρ st a w m he hw hn hd hr
    simp only [exec] at hr
    simp only [codeOK] at hc
    obtain ⟨⟨e0, ρ0, st0⟩, hit, hK⟩ := Option.bind_eq_some_iff.1 hr
    dsimp only at hK
    intro b k cs
    have hn0 : num0 m.blk ≤ numO st 0 := by rw [num0_st hw]; exact Nat.le_refl _
    have key : ∀ (a1 : Act) (w1 : World) (m1 : Mt), Ext m w m1 w1 → EnvRel m1 w1 ρ a1 → WRel m1 st w1 → n ≤ a1.tmps.size → a1.defers = [] →
        ∃ e' a' w', Post n m w K r e' a' w' ∧ Arrives P (lone (b.at a1 (.code x :: .inLoop x :: k)) cs w1) b k cs e' a' w' := by
      refine iter.partial_correctness (numO st 0) (keys ρ) (fun ρ st => exec (real c) Γ an x ρ st fun e ρ st => some (e, ρ, st))
        (fun ρ st q => K q.1 q.2.1 q.2.2 = some r → ∀ (a1 : Act) (w1 : World) (m1 : Mt), Ext m w m1 w1 → EnvRel m1 w1 ρ a1 → WRel m1 st w1 → n ≤ a1.tmps.size → a1.defers = [] →
          ∃ e' a' w', Post n m w K r e' a' w' ∧ Arrives P (lone (b.at a1 (.code x :: .inLoop x :: k)) cs w1) b k cs e' a' w') ?_ ρ st (e0, ρ0, st0) hit hK
      intro it ih ρ1 st1 q hq hKq a1 w1 m1 hx1 he hw hn hd
      cases hx : exec (real c) Γ an x ρ1 st1 fun e ρ st => some (e, ρ, st) with
      | none => simp [hx] at hq
      | some q1 =>
        obtain ⟨e1, ρ2, st2⟩ := q1
        simp only [hx, Option.bind_eq_bind, Option.bind_some] at hq
        obtain ⟨e', a2, w2, ⟨e, ρ', st', m2, rfl, h1, h2, h3, h4, h5, h6⟩, harr⟩ := ihx hc he hw hn hd hx b (.inLoop x :: k) cs
        simp only [Option.some.injEq, Prod.mk.injEq] at h1
        obtain ⟨rfl, rfl, rfl⟩ := h1
        obtain ⟨m3, f1, f2, f3⟩ := trim_rel (n := numO st 0) (hx1.trans h3) hn0 h4 ((egt_keepOnly (keys ρ) ρ').rel h2)
        cases e with
        | normal =>
          dsimp only at hq
          obtain ⟨e2, a3, w3, hpost, harr2⟩ := ih _ _ _ hq hKq a2 w2 m3 f1 f3 f2 h5 h6
          exact ⟨e2, a3, w3, hpost, .of_steps (Steps.trans harr (.one step_inLoop)) harr2⟩
        | exit i =>
          dsimp only at hq
          cases hq
          exact ⟨.exit i, a2, w2, ⟨.exit i, _, _, m3, rfl, hKq, f3, f1, f2, h5, h6⟩, .pass (x := .inLoop x) rfl (fun _ _ => .inl (by simp)) harr⟩
        | ret =>
          dsimp only at hq
          cases hq
          exact ⟨.ret, a2, w2, ⟨.ret, _, _, m3, rfl, hKq, f3, f1, f2, h5, h6⟩, .pass (x := .inLoop x) rfl (fun _ _ => .inl (by simp)) harr⟩
    obtain ⟨e', a', w', hq, harr⟩ := key a w m (Ext.refl m w) he hw hn hd
    exact ⟨e', a', w', hq, .of_steps (.one step_loop) harr⟩
end
end Go.X
