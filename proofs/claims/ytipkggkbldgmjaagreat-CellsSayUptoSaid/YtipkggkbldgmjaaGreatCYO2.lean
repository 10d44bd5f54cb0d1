/- The interpreter computes just these functions: printed by a small program. -/
import Derived.Test.YtipkggkbldgmjaaGreatCYO1
namespace Go.Proofs.YtipkggkbldgmjaaGreat
open Go Go.X
set_option linter.unusedVariables false
set_option linter.unusedSimpArgs false
set_option linter.unusedSectionVars false
variable {Ω : Om} {E : Enc} (hΩ : real (call S) = Ω) (hE : jO = E) {fu : Nat}
include hΩ hE
set_option maxRecDepth 100000
set_option maxHeartbeats 4000000 in
theorem asE {a0 : Cell} {r : Bool} (h : P26 fu a0 = some r) {args : List PV} (ha : [jA E a0] = args) (st : St) :
 Sat (Ω.cf 26 args st) (fun q => q = (PV.d (.bool r), st)) := by
 subst ha
 rcases a0 with ⟨aD, aO, ⟨cu, cB, cK, ⟨bA, bB⟩, ⟨bC, bE⟩, dz, cO, dA⟩, ⟨dD, dF, dG, ⟨bH, bI⟩, ⟨bJ, bK⟩, dH, dI, dJ⟩, ⟨au, aA⟩, ⟨dh, dM⟩, ⟨dN, dP⟩, ⟨cZ, dw⟩, eX, eH, ⟨dK, dQ⟩, ⟨dn, dO⟩⟩
 rw [aR hΩ (f := 26) (fn := Tryz.f26) (x := c26) rfl rfl abG rfl rfl rfl]
 unfold P26 at h
 try dsimp only at h
 conv => arg 1; cbv
 replace h := aW h
 obtain ⟨i12, afm, h⟩ := h
 refine aI hΩ ((fun (q : Bool) => (match q with | i12 => ([(1, PV.bf (mI E aD aO cu cB cK bA bB bC bE dz cO dA dD dF dG bH bI bJ bK dH dI dJ au aA dh dM dN dP cZ dw eX eH dK dQ dn dO)), (2, vb false), (28, vb i12)], nO :: st))) i12) (fun k hk => ?_) ?_
 clear h
 have h := afm
 clear afm
 conv => arg 1; cbv
 refine av hΩ (dV hE) dh fun n1 hn2 => cv ?_
 refine av hΩ (dV hE) dN fun n3 FP => cv ?_
 refine av hΩ (ak hE) cZ fun n5 hn6 => cv ?_
 refine aj hΩ (cv ?_)
 refine av hΩ (dV hE) dK fun n7 hn8 => cv ?_
 refine av hΩ (ak hE) dn fun n9 aqP => cv ?_
 revert h; refine bU (fun Ba h => cv ?_) fun Ba h => cv ?_
 exact fk h hk
 exact fk h hk
 clear afm
 try dsimp only at h
 conv => arg 1; cbv
 replace h := aW h
 obtain ⟨qy, afn, h⟩ := h
 refine aI hΩ ((fun (q : Bool) => (match q with | qy => ([(1, PV.bf (mI E aD aO cu cB cK bA bB bC bE dz cO dA dD dF dG bH bI bJ bK dH dI dJ au aA dh dM dN dP cZ dw eX eH dK dQ dn dO)), (2, vb false), (32, vb qy)], nO :: st))) qy) (fun k hk => ?_) ?_
 clear h
 have h := afn
 clear afn
 conv => arg 1; cbv
 revert h; refine bU (fun ES h => cv ?_) fun ES h => cv ?_
 exact fk h hk
 exact fk h hk
 clear afn
 try dsimp only at h
 conv => arg 1; cbv
 refine aC hΩ (cv ?_)
 replace h := aW h
 obtain ⟨sJ, hx16, h⟩ := h
 refine gW (asu hΩ hE (hf := fun h => @fun args ha st => asD hΩ hE h ha st) hx16 (by (try clear h); subst_vars; rfl) _) (cv ?_)
 replace h := aW h
 obtain ⟨q, afo, h⟩ := h
 refine aI hΩ ((fun (q : Unit ⊕ Bool) => (match q with | .inl _ => (.normal, [(1, PV.bf (mI E aD aO cu cB cK bA bB bC bE dz cO dA dD dF dG bH bI bJ bK dH dI dJ au aA dh dM dN dP cZ dw eX eH dK dQ dn dO)), (2, vb false), (3, vb qy), (4, PV.d (.bool (!sJ))), (38, PV.d (.int .u8 aD))], nO :: st) | .inr i117 => (.ret, [(1, PV.bf (mI E aD aO cu cB cK bA bB bC bE dz cO dA dD dF dG bH bI bJ bK dH dI dJ au aA dh dM dN dP cZ dw eX eH dK dQ dn dO)), (2, vb i117), (3, vb qy), (4, PV.d (.bool (!sJ))), (38, PV.d (.int .u8 aD))], nO :: st))) q) (fun k hk => ?_) ?_
 clear h
 have h := afo
 clear afo
 conv => arg 1; cbv
 revert h; refine bU (fun u7 h => cv ?_) fun u7 h => cv ?_
 replace h := aW h
 obtain ⟨i23, aoe, h⟩ := h
 refine aI hΩ ((fun (q : Bool) => (match q with | i23 => ([(1, PV.bf (mI E aD aO cu cB cK bA bB bC bE dz cO dA dD dF dG bH bI bJ bK dH dI dJ au aA dh dM dN dP cZ dw eX eH dK dQ dn dO)), (2, vb false), (3, vb qy), (4, PV.d (.bool (!sJ))), (38, PV.d (.int .u8 aD)), (48, vb i23)], nO :: st))) i23) (fun k hk => ?_) ?_
 clear h
 have h := aoe
 clear aoe
 conv => arg 1; cbv
 replace h := aW h
 obtain ⟨TR, EX, h⟩ := h
 refine aH (aiA hΩ hE EX) (cv ?_)
 revert h; refine bU (fun nZ h => cv ?_) fun nZ h => cv ?_
 replace h := aW h
 obtain ⟨X5, Kr, h⟩ := h
 refine aH (WC hΩ hE Kr) (cv ?_)
 exact fk h hk
 exact fk h hk
 clear aoe
 try dsimp only at h
 conv => arg 1; cbv
 replace h := aW h
 obtain ⟨i27, aof, h⟩ := h
 refine aI hΩ ((fun (q : Bool) => (match q with | i27 => ([(1, PV.bf (mI E aD aO cu cB cK bA bB bC bE dz cO dA dD dF dG bH bI bJ bK dH dI dJ au aA dh dM dN dP cZ dw eX eH dK dQ dn dO)), (2, vb false), (3, vb qy), (4, PV.d (.bool (!sJ))), (38, PV.d (.int .u8 aD)), (53, vb i27)], nO :: st))) i27) (fun k hk => ?_) ?_
 clear h
 have h := aof
 clear aof
 conv => arg 1; cbv
 revert h; refine bU (fun yt h => cv ?_) fun yt h => cv ?_
 replace h := aW h
 obtain ⟨Yl, rJ, h⟩ := h
 refine aH (WC hΩ hE rJ) (cv ?_)
 exact fk h hk
 exact fk h hk
 clear aof
 try dsimp only at h
 conv => arg 1; cbv
 replace h := aW h
 obtain ⟨i31, WE, h⟩ := h
 refine aI hΩ ((fun (q : Bool) => (match q with | i31 => ([(1, PV.bf (mI E aD aO cu cB cK bA bB bC bE dz cO dA dD dF dG bH bI bJ bK dH dI dJ au aA dh dM dN dP cZ dw eX eH dK dQ dn dO)), (2, vb false), (3, vb qy), (4, PV.d (.bool (!sJ))), (38, PV.d (.int .u8 aD)), (59, vb i31)], nO :: st))) i31) (fun k hk => ?_) ?_
 clear h
 have h := WE
 clear WE
 conv => arg 1; cbv
 revert h; refine bU (fun afl h => cv ?_) fun afl h => cv ?_
 refine av hΩ (aF hE) au fun n29 atI => cv ?_
 exact fk h hk
 exact fk h hk
 clear WE
 try dsimp only at h
 conv => arg 1; cbv
 replace h := aW h
 obtain ⟨i33, aog, h⟩ := h
 refine aI hΩ ((fun (q : Bool) => (match q with | i33 => ([(1, PV.bf (mI E aD aO cu cB cK bA bB bC bE dz cO dA dD dF dG bH bI bJ bK dH dI dJ au aA dh dM dN dP cZ dw eX eH dK dQ dn dO)), (2, vb false), (3, vb qy), (4, PV.d (.bool (!sJ))), (38, PV.d (.int .u8 aD)), (63, vb i33)], nO :: st))) i33) (fun k hk => ?_) ?_
 clear h
 have h := aog
 clear aog
 conv => arg 1; cbv
 revert h; refine bU (fun Kj h => cv ?_) fun Kj h => cv ?_
 exact fk h hk
 exact fk h hk
 clear aog
 try dsimp only at h
 conv => arg 1; cbv
 refine aC hΩ (cv ?_)
 exact fk h hk
 replace h := aW h
 obtain ⟨q, afp, h⟩ := h
 refine aI hΩ ((fun (q : Unit ⊕ Bool) => (match q with | .inl _ => (.normal, [(1, PV.bf (mI E aD aO cu cB cK bA bB bC bE dz cO dA dD dF dG bH bI bJ bK dH dI dJ au aA dh dM dN dP cZ dw eX eH dK dQ dn dO)), (2, vb false), (3, vb qy), (4, PV.d (.bool (!sJ))), (38, PV.d (.int .u8 aD))], nO :: st) | .inr ahj => (.ret, [(1, PV.bf (mI E aD aO cu cB cK bA bB bC bE dz cO dA dD dF dG bH bI bJ bK dH dI dJ au aA dh dM dN dP cZ dw eX eH dK dQ dn dO)), (2, vb ahj), (3, vb qy), (4, PV.d (.bool (!sJ))), (38, PV.d (.int .u8 aD))], nO :: st))) q) (fun k hk => ?_) ?_
 clear h
 have h := afp
 clear afp
 conv => arg 1; cbv
 revert h; refine bU (fun aoh h => cv ?_) fun aoh h => cv ?_
 replace h := aW h
 obtain ⟨i44, aoi, h⟩ := h
 refine aI hΩ ((fun (q : Bool) => (match q with | i44 => ([(1, PV.bf (mI E aD aO cu cB cK bA bB bC bE dz cO dA dD dF dG bH bI bJ bK dH dI dJ au aA dh dM dN dP cZ dw eX eH dK dQ dn dO)), (2, vb false), (3, vb qy), (4, PV.d (.bool (!sJ))), (38, PV.d (.int .u8 aD)), (73, vb i44)], nO :: st))) i44) (fun k hk => ?_) ?_
 clear h
 have h := aoi
 clear aoi
 conv => arg 1; cbv
 replace h := aW h
 obtain ⟨r39, asF, h⟩ := h
 refine aH (aiA hΩ hE asF) (cv ?_)
 revert h; refine bU (fun yx h => cv ?_) fun yx h => cv ?_
 replace h := aW h
 obtain ⟨r42, aoj, h⟩ := h
 refine aH (WC hΩ hE aoj) (cv ?_)
 exact fk h hk
 exact fk h hk
 clear aoi
 try dsimp only at h
 conv => arg 1; cbv
 replace h := aW h
 obtain ⟨i48, WG, h⟩ := h
 refine aI hΩ ((fun (q : Bool) => (match q with | i48 => ([(1, PV.bf (mI E aD aO cu cB cK bA bB bC bE dz cO dA dD dF dG bH bI bJ bK dH dI dJ au aA dh dM dN dP cZ dw eX eH dK dQ dn dO)), (2, vb false), (3, vb qy), (4, PV.d (.bool (!sJ))), (38, PV.d (.int .u8 aD)), (78, vb i48)], nO :: st))) i48) (fun k hk => ?_) ?_
 clear h
 have h := WG
 clear WG
 conv => arg 1; cbv
 revert h; refine bU (fun Kl h => cv ?_) fun Kl h => cv ?_
 replace h := aW h
 obtain ⟨r46, an5, h⟩ := h
 refine aH (aiB hΩ hE an5) (cv ?_)
 exact fk h hk
 exact fk h hk
 clear WG
 try dsimp only at h
 conv => arg 1; cbv
 replace h := aW h
 obtain ⟨i50, WH, h⟩ := h
 refine aI hΩ ((fun (q : Bool) => (match q with | i50 => ([(1, PV.bf (mI E aD aO cu cB cK bA bB bC bE dz cO dA dD dF dG bH bI bJ bK dH dI dJ au aA dh dM dN dP cZ dw eX eH dK dQ dn dO)), (2, vb false), (3, vb qy), (4, PV.d (.bool (!sJ))), (38, PV.d (.int .u8 aD)), (81, vb i50)], nO :: st))) i50) (fun k hk => ?_) ?_
 clear h
 have h := WH
 clear WH
 conv => arg 1; cbv
 revert h; refine bU (fun an6 h => cv ?_) fun an6 h => cv ?_
 exact fk h hk
 exact fk h hk
 clear WH
 try dsimp only at h
 conv => arg 1; cbv
 replace h := aW h
 obtain ⟨i52, Kz, h⟩ := h
 refine aI hΩ ((fun (q : Bool) => (match q with | i52 => ([(1, PV.bf (mI E aD aO cu cB cK bA bB bC bE dz cO dA dD dF dG bH bI bJ bK dH dI dJ au aA dh dM dN dP cZ dw eX eH dK dQ dn dO)), (2, vb false), (3, vb qy), (4, PV.d (.bool (!sJ))), (38, PV.d (.int .u8 aD)), (85, vb i52)], nO :: st))) i52) (fun k hk => ?_) ?_
 clear h
 have h := Kz
 clear Kz
 conv => arg 1; cbv
 revert h; refine bU (fun anD h => cv ?_) fun anD h => cv ?_
 exact fk h hk
 exact fk h hk
 clear Kz
 try dsimp only at h
 conv => arg 1; cbv
 refine aC hΩ (cv ?_)
 exact fk h hk
 replace h := aW h
 obtain ⟨q, afq, h⟩ := h
 refine aI hΩ ((fun (q : Unit ⊕ Bool) => (match q with | .inl _ => (.normal, [(1, PV.bf (mI E aD aO cu cB cK bA bB bC bE dz cO dA dD dF dG bH bI bJ bK dH dI dJ au aA dh dM dN dP cZ dw eX eH dK dQ dn dO)), (2, vb false), (3, vb qy), (4, PV.d (.bool (!sJ))), (38, PV.d (.int .u8 aD))], nO :: st) | .inr ahi => (.ret, [(1, PV.bf (mI E aD aO cu cB cK bA bB bC bE dz cO dA dD dF dG bH bI bJ bK dH dI dJ au aA dh dM dN dP cZ dw eX eH dK dQ dn dO)), (2, vb ahi), (3, vb qy), (4, PV.d (.bool (!sJ))), (38, PV.d (.int .u8 aD))], nO :: st))) q) (fun k hk => ?_) ?_
 clear h
 have h := afq
 clear afq
 conv => arg 1; cbv
 revert h; refine bU (fun asG h => cv ?_) fun asG h => cv ?_
 replace h := aW h
 obtain ⟨i63, aok, h⟩ := h
 refine aI hΩ ((fun (q : Bool) => (match q with | i63 => ([(1, PV.bf (mI E aD aO cu cB cK bA bB bC bE dz cO dA dD dF dG bH bI bJ bK dH dI dJ au aA dh dM dN dP cZ dw eX eH dK dQ dn dO)), (2, vb false), (3, vb qy), (4, PV.d (.bool (!sJ))), (38, PV.d (.int .u8 aD)), (95, vb i63)], nO :: st))) i63) (fun k hk => ?_) ?_
 clear h
 have h := aok
 clear aok
 conv => arg 1; cbv
 replace h := aW h
 obtain ⟨r58, asH, h⟩ := h
 refine aH (aiA hΩ hE asH) (cv ?_)
 revert h; refine bU (fun asI h => cv ?_) fun asI h => cv ?_
 replace h := aW h
 obtain ⟨r61, asJ, h⟩ := h
 refine aH (WC hΩ hE asJ) (cv ?_)
 exact fk h hk
 exact fk h hk
 clear aok
 try dsimp only at h
 conv => arg 1; cbv
 replace h := aW h
 obtain ⟨i67, aol, h⟩ := h
 refine aI hΩ ((fun (q : Bool) => (match q with | i67 => ([(1, PV.bf (mI E aD aO cu cB cK bA bB bC bE dz cO dA dD dF dG bH bI bJ bK dH dI dJ au aA dh dM dN dP cZ dw eX eH dK dQ dn dO)), (2, vb false), (3, vb qy), (4, PV.d (.bool (!sJ))), (38, PV.d (.int .u8 aD)), (100, vb i67)], nO :: st))) i67) (fun k hk => ?_) ?_
 clear h
 have h := aol
 clear aol
 conv => arg 1; cbv
 revert h; refine bU (fun asK h => cv ?_) fun asK h => cv ?_
 replace h := aW h
 obtain ⟨r65, asL, h⟩ := h
 refine aH (aiB hΩ hE asL) (cv ?_)
 exact fk h hk
 exact fk h hk
 clear aol
 try dsimp only at h
 conv => arg 1; cbv
 replace h := aW h
 obtain ⟨i71, aom, h⟩ := h
 refine aI hΩ ((fun (q : Bool) => (match q with | i71 => ([(1, PV.bf (mI E aD aO cu cB cK bA bB bC bE dz cO dA dD dF dG bH bI bJ bK dH dI dJ au aA dh dM dN dP cZ dw eX eH dK dQ dn dO)), (2, vb false), (3, vb qy), (4, PV.d (.bool (!sJ))), (38, PV.d (.int .u8 aD)), (106, vb i71)], nO :: st))) i71) (fun k hk => ?_) ?_
 clear h
 have h := aom
 clear aom
 conv => arg 1; cbv
 revert h; refine bU (fun asM h => cv ?_) fun asM h => cv ?_
 refine av hΩ (aF hE) au fun n69 atJ => cv ?_
 exact fk h hk
 exact fk h hk
 clear aom
 try dsimp only at h
 conv => arg 1; cbv
 replace h := aW h
 obtain ⟨i73, aon, h⟩ := h
 refine aI hΩ ((fun (q : Bool) => (match q with | i73 => ([(1, PV.bf (mI E aD aO cu cB cK bA bB bC bE dz cO dA dD dF dG bH bI bJ bK dH dI dJ au aA dh dM dN dP cZ dw eX eH dK dQ dn dO)), (2, vb false), (3, vb qy), (4, PV.d (.bool (!sJ))), (38, PV.d (.int .u8 aD)), (110, vb i73)], nO :: st))) i73) (fun k hk => ?_) ?_
 clear h
 have h := aon
 clear aon
 conv => arg 1; cbv
 revert h; refine bU (fun aoo h => cv ?_) fun aoo h => cv ?_
 exact fk h hk
 exact fk h hk
 clear aon
 try dsimp only at h
 conv => arg 1; cbv
 refine aC hΩ (cv ?_)
 exact fk h hk
 replace h := aW h
 obtain ⟨i79, KA, h⟩ := h
 refine aI hΩ ((fun (q : Bool) => (match q with | i79 => (.normal, [(1, PV.bf (mI E aD aO cu cB cK bA bB bC bE dz cO dA dD dF dG bH bI bJ bK dH dI dJ au aA dh dM dN dP cZ dw eX eH dK dQ dn dO)), (2, vb false), (3, vb qy), (4, PV.d (.bool (!sJ))), (38, PV.d (.int .u8 aD)), (111, vb i79)], nO :: st))) i79) (fun k hk => ?_) ?_
 clear h
 have h := KA
 clear KA
 conv => arg 1; cbv
 revert h; refine bU (fun asN h => cv ?_) fun asN h => cv ?_
 exact fk h hk
 exact fk h hk
 clear KA
 try dsimp only at h
 conv => arg 1; cbv
 refine aC hΩ (cv ?_)
 revert h; refine bU (fun asO h => cv ?_) fun asO h => cv ?_
 replace h := aW h
 obtain ⟨i84, afr, h⟩ := h
 refine aI hΩ ((fun (q : Bool) => (match q with | i84 => ([(1, PV.bf (mI E aD aO cu cB cK bA bB bC bE dz cO dA dD dF dG bH bI bJ bK dH dI dJ au aA dh dM dN dP cZ dw eX eH dK dQ dn dO)), (2, vb false), (3, vb qy), (4, PV.d (.bool (!sJ))), (38, PV.d (.int .u8 aD)), (111, vb true), (121, vb i84)], nO :: st))) i84) (fun k hk => ?_) ?_
 clear h
 have h := afr
 clear afr
 conv => arg 1; cbv
 revert h; refine bU (fun aop h => cv ?_) fun aop h => cv ?_
 replace h := aW h
 obtain ⟨r82, aoq, h⟩ := h
 refine aH (aiB hΩ hE aoq) (cv ?_)
 exact fk h hk
 exact fk h hk
 clear afr
 try dsimp only at h
 conv => arg 1; cbv
 replace h := aW h
 obtain ⟨i88, KD, h⟩ := h
 refine aI hΩ ((fun (q : Bool) => (match q with | i88 => ([(1, PV.bf (mI E aD aO cu cB cK bA bB bC bE dz cO dA dD dF dG bH bI bJ bK dH dI dJ au aA dh dM dN dP cZ dw eX eH dK dQ dn dO)), (2, vb false), (3, vb qy), (4, PV.d (.bool (!sJ))), (38, PV.d (.int .u8 aD)), (111, vb true), (126, vb i88)], nO :: st))) i88) (fun k hk => ?_) ?_
 clear h
 have h := KD
 clear KD
 conv => arg 1; cbv
 revert h; refine bU (fun aor h => cv ?_) fun aor h => cv ?_
 replace h := aW h
 obtain ⟨r86, aos, h⟩ := h
 refine aH (aiB hΩ hE aos) (cv ?_)
 exact fk h hk
 exact fk h hk
 clear KD
 try dsimp only at h
 conv => arg 1; cbv
 replace h := aW h
 obtain ⟨i90, afs, h⟩ := h
 refine aI hΩ ((fun (q : Bool) => (match q with | i90 => ([(1, PV.bf (mI E aD aO cu cB cK bA bB bC bE dz cO dA dD dF dG bH bI bJ bK dH dI dJ au aA dh dM dN dP cZ dw eX eH dK dQ dn dO)), (2, vb false), (3, vb qy), (4, PV.d (.bool (!sJ))), (38, PV.d (.int .u8 aD)), (111, vb true), (129, vb i90)], nO :: st))) i90) (fun k hk => ?_) ?_
 clear h
 have h := afs
 clear afs
 conv => arg 1; cbv
 revert h; refine bU (fun aot h => cv ?_) fun aot h => cv ?_
 exact fk h hk
 exact fk h hk
 clear afs
 try dsimp only at h
 conv => arg 1; cbv
 replace h := aW h
 obtain ⟨i94, KE, h⟩ := h
 refine aI hΩ ((fun (q : Bool) => (match q with | i94 => ([(1, PV.bf (mI E aD aO cu cB cK bA bB bC bE dz cO dA dD dF dG bH bI bJ bK dH dI dJ au aA dh dM dN dP cZ dw eX eH dK dQ dn dO)), (2, vb false), (3, vb qy), (4, PV.d (.bool (!sJ))), (38, PV.d (.int .u8 aD)), (111, vb true), (134, vb i94)], nO :: st))) i94) (fun k hk => ?_) ?_
 clear h
 have h := KE
 clear KE
 conv => arg 1; cbv
 revert h; refine bU (fun asP h => cv ?_) fun asP h => cv ?_
 replace h := aW h
 obtain ⟨r92, hx93, h⟩ := h
 refine aH (aq3 hΩ hE hx93) (cv ?_)
 exact fk h hk
 exact fk h hk
 clear KE
 try dsimp only at h
 conv => arg 1; cbv
 replace h := aW h
 obtain ⟨i98, aft, h⟩ := h
 refine aI hΩ ((fun (q : Bool) => (match q with | i98 => ([(1, PV.bf (mI E aD aO cu cB cK bA bB bC bE dz cO dA dD dF dG bH bI bJ bK dH dI dJ au aA dh dM dN dP cZ dw eX eH dK dQ dn dO)), (2, vb false), (3, vb qy), (4, PV.d (.bool (!sJ))), (38, PV.d (.int .u8 aD)), (111, vb true), (139, vb i98)], nO :: st))) i98) (fun k hk => ?_) ?_
 clear h
 have h := aft
 clear aft
 conv => arg 1; cbv
 revert h; refine bU (fun asQ h => cv ?_) fun asQ h => cv ?_
 replace h := aW h
 obtain ⟨r96, asR, h⟩ := h
 refine aH (aq3 hΩ hE asR) (cv ?_)
 exact fk h hk
 exact fk h hk
 clear aft
 try dsimp only at h
 conv => arg 1; cbv
 replace h := aW h
 obtain ⟨i105, KF, h⟩ := h
 refine aI hΩ ((fun (q : Bool) => (match q with | i105 => ([(1, PV.bf (mI E aD aO cu cB cK bA bB bC bE dz cO dA dD dF dG bH bI bJ bK dH dI dJ au aA dh dM dN dP cZ dw eX eH dK dQ dn dO)), (2, vb false), (3, vb qy), (4, PV.d (.bool (!sJ))), (38, PV.d (.int .u8 aD)), (111, vb true), (153, vb i105)], nO :: st))) i105) (fun k hk => ?_) ?_
 clear h
 have h := KF
 clear KF
 conv => arg 1; cbv
 revert h; refine bU (fun asS h => cv ?_) fun asS h => cv ?_
 revert h; refine bU (fun aq4 h => cv ?_) fun aq4 h => cv ?_
 refine av hΩ (dV hE) dK fun n101 atr => cv ?_
 refine av hΩ (ak hE) dn fun n103 att => cv ?_
 refine aj hΩ (cv ?_)
 exact fk h hk
 refine aj hΩ (cv ?_)
 exact fk h hk
 refine aj hΩ (cv ?_)
 exact fk h hk
 clear KF
 try dsimp only at h
 conv => arg 1; cbv
 refine aC hΩ (cv ?_)
 exact fk h hk
 exact fk h hk
 clear afq
 rcases q with _ | ahi
 try dsimp only at h
 conv => arg 1; cbv
 exact fk h hk
 try dsimp only at h
 conv => arg 1; cbv
 exact fk h hk
 clear afp
 rcases q with _ | ahj
 try dsimp only at h
 conv => arg 1; cbv
 exact fk h hk
 try dsimp only at h
 conv => arg 1; cbv
 exact fk h hk
 clear afo
 rcases q with _ | i117
 try dsimp only at h
 conv => arg 1; cbv
 exact sp h
 try dsimp only at h
 conv => arg 1; cbv
 exact sp h
set_option maxHeartbeats 4000000 in
theorem asT {a0 : Sl Cell} {r : Bool} (h : P11 fu a0 = some r) {args : List PV} (ha : [PV.d (.sl (E.bM a0.l) (E.bX a0.x))] = args) (st : St) :
 Sat (Ω.cf 11 args st) (fun q => q = (PV.d (.bool r), st)) := by
 subst ha
 rcases a0 with ⟨ah, aY⟩
 rw [aR hΩ (f := 11) (fn := Tryz.f11) (x := c11) rfl rfl aby rfl rfl rfl]
 unfold P11 at h
 try dsimp only at h
 conv => arg 1; cbv
 refine av hΩ (aV hE) ah fun n1 hn2 => cv ?_
 refine aC hΩ (cv ?_)
 revert h; refine bU (fun hb3 h => cv ?_) fun hb3 h => cv ?_
 exact sp h
 refine av hΩ (aV hE) ah fun n4 hn5 => cv ?_
 replace h := aW h
 obtain ⟨q, Rj, h⟩ := h
 refine dL hΩ (fun (a : Int) => (match a with | i6 => ([(0, PV.d (.sl (E.bM ah) (E.bX aY))), (2, vb false), (8, PV.d (.sl (E.bM ah) (E.bX aY))), (9, vi n4), (10, vi i6)], nO :: st))) (fun (q : Int ⊕ Int) => (match q with | .inl Z7 => (.exit 0, [(0, PV.d (.sl (E.bM ah) (E.bX aY))), (2, vb false), (8, PV.d (.sl (E.bM ah) (E.bX aY))), (9, vi n4), (10, vi Z7)], nO :: st) | .inr Ye => (.ret, [(0, PV.d (.sl (E.bM ah) (E.bX aY))), (2, vb false), (8, PV.d (.sl (E.bM ah) (E.bX aY))), (9, vi n4), (10, vi Ye)], nO :: st))) 0 Rj ?_ ?_
 clear h Rj
 rintro i6 q h
 unfold Jy at h
 dsimp only at h
 conv => arg 1; cbv
 refine aC hΩ (cv ?_)
 revert h; refine bU (fun AX h => cv ?_) fun AX h => cv ?_
 refine sat_true (bg hΩ (aV hE) ah) (cv ?_)
 replace h := aW h
 obtain ⟨⟨F8, K5, ⟨ML, MN, MO, ⟨EA, EB⟩, ⟨EC, ED⟩, MP, MQ, MR⟩, ⟨MS, MU, MV, ⟨EF, EG⟩, ⟨EH, EI⟩, MW, MX, MZ⟩, ⟨Dh, Di⟩, ⟨M0, M4⟩, ⟨M5, M6⟩, ⟨M7, M8⟩, aac, aad, ⟨M9, Na⟩, ⟨Nb, Nc⟩⟩, Uh, h⟩ := h
 try dsimp only at h
 refine aM (bG hΩ (aV hE) Uh) (cv ?_)
 replace h := aW h
 obtain ⟨i16, Ky, h⟩ := h
 refine aI hΩ ((fun (q : Bool) => (match q with | i16 => ([(0, PV.d (.sl (E.bM ah) (E.bX aY))), (2, vb false), (3, vi i6), (4, PV.ptr 0 0 0), (8, PV.d (.sl (E.bM ah) (E.bX aY))), (9, vi n4), (10, vi i6), (30, vb i16)], ([X.Obj.box 40 (zP2 E F8 K5 ML MN MO EA EB EC ED MP MQ MR MS MU MV EF EG EH EI MW MX MZ Dh Di M0 M4 M5 M6 M7 M8 aac aad M9 Na Nb Nc)] : List X.Obj) :: st))) i16) (fun k hk => ?_) ?_
 clear h
 have h := Ky
 clear Ky
 conv => arg 1; cbv
 replace h := aW h
 obtain ⟨r10, mP, h⟩ := h
 refine aH (asE hΩ hE mP) (cv ?_)
 revert h; refine bU (fun EU h => cv ?_) fun EU h => cv ?_
 revert h; refine bU (fun ES h => cv ?_) fun ES h => cv ?_
 replace h := aW h
 obtain ⟨FK, yA, h⟩ := h
 refine aH (aqA hΩ hE yA) (cv ?_)
 refine aj hΩ (cv ?_)
 exact fk h hk
 refine aj hΩ (cv ?_)
 exact fk h hk
 refine aj hΩ (cv ?_)
 exact fk h hk
 clear Ky
 try dsimp only at h
 conv => arg 1; cbv
 refine aC hΩ (cv ?_)
 revert h; refine bU (fun u7 h => cv ?_) fun u7 h => cv ?_
 obtain rfl := fV h
 subst_vars
 exact sR
 obtain rfl := fV h
 subst_vars
 exact s3
 obtain rfl := fV h
 subst_vars
 exact sL
 clear Rj
 rcases q with Z7 | Ye
 dsimp only at h
 conv => arg 1; cbv
 exact sp h
 dsimp only at h
 conv => arg 1; cbv
 exact sp h
set_option maxHeartbeats 4000000 in
theorem aiC {a0 : ByteArray} {r : Bool} (h : P53 fu a0 = some r) {args : List PV} (ha : [PV.d (.str a0)] = args) (st : St) :
 Sat (Ω.cf 53 args st) (fun q => q = (PV.d (.bool r), st)) := by
 subst ha
 rw [aR hΩ (f := 53) (fn := Tryz.f53) (x := c53) rfl rfl akQ rfl rfl rfl]
 unfold P53 at h
 try dsimp only at h
 conv => arg 1; cbv
 replace h := aW h
 obtain ⟨i2, hq3, h⟩ := h
 refine aI hΩ ((fun (q : Bool) => (match q with | i2 => ([(2, vb i2)], nO :: st))) i2) (fun k hk => ?_) ?_
 clear h
 have h := hq3
 clear hq3
 conv => arg 1; cbv
 revert h; refine bU (fun hb1 h => cv ?_) fun hb1 h => cv ?_
 exact fk h hk
 exact fk h hk
 clear hq3
 try dsimp only at h
 conv => arg 1; cbv
 exact sp h
set_option maxHeartbeats 4000000 in
theorem WI {a0 : Value} {a1 : Bool} {a2 : Bool} {a3 : Bool} {a4 : Bool} {r : Bool} (h : P92 fu a0 a1 a2 a3 a4 = some r) {args : List PV} (ha : [aT E a0, PV.d (.bool a1), PV.d (.bool a2), PV.d (.bool a3), PV.d (.bool a4)] = args) (st : St) :
 Sat (Ω.cf 92 args st) (fun q => q = (PV.d (.bool r), st)) := by
 subst ha
 rcases a0 with ⟨aD, aO, bN, ⟨aK, aS⟩, ⟨au, aA⟩, bO, bT, aQ⟩
 rw [aR hΩ (f := 92) (fn := Tryz.f92) (x := c92) rfl rfl ak6 rfl rfl rfl]
 unfold P92 at h
 try dsimp only at h
 conv => arg 1; cbv
 replace h := aW h
 obtain ⟨i2, Wx, h⟩ := h
 refine aI hΩ ((fun (q : Bool) => (match q with | i2 => ([(2, vb a2), (3, vb a3), (4, vb a4), (5, PV.bf (iY E aD aO bN aK aS au aA bO bT aQ)), (10, vb false), (16, vb i2)], nO :: st))) i2) (fun k hk => ?_) ?_
 clear h
 have h := Wx
 clear Wx
 conv => arg 1; cbv
 revert h; refine bU (fun hb1 h => cv ?_) fun hb1 h => cv ?_
 exact fk h hk
 exact fk h hk
 clear Wx
 try dsimp only at h
 conv => arg 1; cbv
 replace h := aW h
 obtain ⟨i5, qj, h⟩ := h
 refine aI hΩ ((fun (q : Bool) => (match q with | i5 => ([(3, vb a3), (4, vb a4), (5, PV.bf (iY E aD aO bN aK aS au aA bO bT aQ)), (10, vb false), (24, vb i5)], nO :: st))) i5) (fun k hk => ?_) ?_
 clear h
 have h := qj
 clear qj
 conv => arg 1; cbv
 revert h; refine bU (fun hb3 h => cv ?_) fun hb3 h => cv ?_
 revert h; refine bU (fun hb4 h => cv ?_) fun hb4 h => cv ?_
 exact fk h hk
 exact fk h hk
 exact fk h hk
 clear qj
 try dsimp only at h
 conv => arg 1; cbv
 replace h := aW h
 obtain ⟨Yn, aou, h⟩ := h
 refine aI hΩ ((fun (q : Bool) => (match q with | Yn => ([(4, vb a4), (5, PV.bf (iY E aD aO bN aK aS au aA bO bT aQ)), (10, vb false), (33, vb Yn)], nO :: st))) Yn) (fun k hk => ?_) ?_
 clear h
 have h := aou
 clear aou
 conv => arg 1; cbv
 revert h; refine bU (fun hb6 h => cv ?_) fun hb6 h => cv ?_
 revert h; refine bU (fun AX h => cv ?_) fun AX h => cv ?_
 refine av hΩ (aF hE) aK fun n8 hn9 => cv ?_
 exact fk h hk
 exact fk h hk
 exact fk h hk
 clear aou
 try dsimp only at h
 conv => arg 1; cbv
 replace h := aW h
 obtain ⟨TL, aov, h⟩ := h
 refine aI hΩ ((fun (q : Bool) => (match q with | TL => ([(5, PV.bf (iY E aD aO bN aK aS au aA bO bT aQ)), (10, vb false), (42, vb TL)], nO :: st))) TL) (fun k hk => ?_) ?_
 clear h
 have h := aov
 clear aov
 conv => arg 1; cbv
 revert h; refine bU (fun Ba h => cv ?_) fun Ba h => cv ?_
 revert h; refine bU (fun EU h => cv ?_) fun EU h => cv ?_
 refine av hΩ (ak hE) au fun n13 WJ => cv ?_
 exact fk h hk
 exact fk h hk
 exact fk h hk
 clear aov
 try dsimp only at h
 conv => arg 1; cbv
 replace h := aW h
 obtain ⟨i17, aow, h⟩ := h
 refine aI hΩ ((fun (q : Bool) => (match q with | i17 => ([(5, PV.bf (iY E aD aO bN aK aS au aA bO bT aQ)), (10, vb false), (47, vb i17)], nO :: st))) i17) (fun k hk => ?_) ?_
 clear h
 have h := aow
 clear aow
 conv => arg 1; cbv
 revert h; refine bU (fun qm h => cv ?_) fun qm h => cv ?_
 exact fk h hk
 exact fk h hk
 clear aow
 try dsimp only at h
 conv => arg 1; cbv
 replace h := aW h
 obtain ⟨i19, Kt, h⟩ := h
 refine aI hΩ ((fun (q : Bool) => (match q with | i19 => ([(5, PV.bf (iY E aD aO bN aK aS au aA bO bT aQ)), (10, vb false), (52, vb i19)], nO :: st))) i19) (fun k hk => ?_) ?_
 clear h
 have h := Kt
 clear Kt
 conv => arg 1; cbv
 revert h; refine bU (fun vk h => cv ?_) fun vk h => cv ?_
 exact fk h hk
 exact fk h hk
 clear Kt
 try dsimp only at h
 conv => arg 1; cbv
 replace h := aW h
 obtain ⟨i21, qo, h⟩ := h
 refine aI hΩ ((fun (q : Bool) => (match q with | i21 => ([(5, PV.bf (iY E aD aO bN aK aS au aA bO bT aQ)), (10, vb false), (57, vb i21)], nO :: st))) i21) (fun k hk => ?_) ?_
 clear h
 have h := qo
 clear qo
 conv => arg 1; cbv
 revert h; refine bU (fun nZ h => cv ?_) fun nZ h => cv ?_
 exact fk h hk
 exact fk h hk
 clear qo
 try dsimp only at h
 conv => arg 1; cbv
 refine aC hΩ (cv ?_)
 exact sp h
set_option maxHeartbeats 4000000 in
theorem Y6 {a0 : ByteArray} {r : Bool} (h : TS fu a0 = some r) {args : List PV} (ha : [PV.d (.str a0)] = args) (st : St) :
 Sat (Ω.cf 104 args st) (fun q => q = (PV.d (.bool r), st)) := by
 subst ha
 rw [aR hΩ (f := 104) (fn := Tryz.f104) (x := apG) rfl rfl agF rfl rfl rfl]
 unfold TS at h
 try dsimp only at h
 conv => arg 1; cbv
 replace h := aW h
 obtain ⟨i2, hq3, h⟩ := h
 refine aI hΩ ((fun (q : Bool) => (match q with | i2 => ([(2, vb i2)], nO :: st))) i2) (fun k hk => ?_) ?_
 clear h
 have h := hq3
 clear hq3
 conv => arg 1; cbv
 revert h; refine bU (fun hb1 h => cv ?_) fun hb1 h => cv ?_
 exact fk h hk
 exact fk h hk
 clear hq3
 try dsimp only at h
 conv => arg 1; cbv
 exact sp h
set_option maxHeartbeats 4000000 in
theorem afu {a0 : Sl Field} {a1 : Sl ByteArray} {r : Bool} (h : VO fu a0 a1 = some r) {args : List PV} (ha : [PV.d (.sl (E.aB a0.l) (E.aG a0.x)), PV.d (.sl (E.fQ a1.l) (E.iA a1.x))] = args) (st : St) :
 Sat (Ω.cf 105 args st) (fun q => q = (PV.d (.bool r), st)) := by
 subst ha
 rcases a0 with ⟨ah, aY⟩
 rcases a1 with ⟨aL, dS⟩
 rw [aR hΩ (f := 105) (fn := Tryz.f105) (x := c105) rfl rfl agG rfl rfl rfl]
 unfold VO at h
 try dsimp only at h
 conv => arg 1; cbv
 refine av hΩ (ak hE) ah fun n1 hn2 => cv ?_
 refine av hΩ (d9 hE) aL fun n3 FP => cv ?_
 refine aC hΩ (cv ?_)
 revert h; refine bU (fun hb5 h => cv ?_) fun hb5 h => cv ?_
 exact sp h
 replace h := aW h
 obtain ⟨q, afh, h⟩ := h
 refine dL hΩ (fun (a : Int) => (match a with | i6 => ([(0, PV.d (.sl (E.aB ah) (E.aG aY))), (1, PV.d (.sl (E.fQ aL) (E.iA dS))), (4, vb false), (5, vi i6)], nO :: st))) (fun (q : Int ⊕ Int) => (match q with | .inl o16 => (.exit 0, [(0, PV.d (.sl (E.aB ah) (E.aG aY))), (1, PV.d (.sl (E.fQ aL) (E.iA dS))), (4, vb false), (5, vi o16)], nO :: st) | .inr Mk => (.ret, [(0, PV.d (.sl (E.aB ah) (E.aG aY))), (1, PV.d (.sl (E.fQ aL) (E.iA dS))), (4, vb false), (5, vi Mk)], nO :: st))) 0 afh ?_ ?_
 clear h afh
 rintro i6 q h
 unfold Dm at h
 dsimp only at h
 conv => arg 1; cbv
 refine av hΩ (ak hE) ah fun n7 hn8 => cv ?_
 refine aC hΩ (cv ?_)
 revert h; refine bU (fun nC h => cv ?_) fun nC h => cv ?_
 refine sat_true (bg hΩ (ak hE) ah) (cv ?_)
 replace h := aW h
 obtain ⟨⟨jv, ⟨nT, nU, nV, ⟨lu, lC⟩, ⟨lD, lF⟩, nW, nX, nY⟩⟩, mP, h⟩ := h
 try dsimp only at h
 refine aM (bG hΩ (ak hE) mP) (cv ?_)
 refine sat_true (bg hΩ (d9 hE) aL) (cv ?_)
 replace h := aW h
 obtain ⟨Z8, mQ, h⟩ := h
 refine aM (bG hΩ (d9 hE) mQ) (cv ?_)
 refine aC hΩ (cv ?_)
 revert h; refine bU (fun nD h => cv ?_) fun nD h => cv ?_
 obtain rfl := fV h
 subst_vars
 exact sR
 obtain rfl := fV h
 subst_vars
 exact s3
 obtain rfl := fV h
 subst_vars
 exact sL
 clear afh
 rcases q with o16 | Mk
 dsimp only at h
 conv => arg 1; cbv
 exact sp h
 dsimp only at h
 conv => arg 1; cbv
 exact sp h
def H78 (Ω : Om) (E : Enc) (GN : Value → Option (Bool)) : Prop := ∀ {a0 : Value} {r : Bool}, GN a0 = some r → ∀ {args : List PV}, [aT E a0] = args → ∀ (st : St), Sat (Ω.cf 78 args st) (fun q => q = (PV.d (.bool r), st))
def H93 (Ω : Om) (E : Enc) (QM : (Sl Value) → Option (Bool)) : Prop := ∀ {a0 : Sl Value} {r : Bool}, QM a0 = some r → ∀ {args : List PV}, [PV.d (.sl (E.aN a0.l) (E.aU a0.x))] = args → ∀ (st : St), Sat (Ω.cf 93 args st) (fun q => q = (PV.d (.bool r), st))
def H94 (Ω : Om) (E : Enc) (Nf : (Sl Field) → Option (Bool)) : Prop := ∀ {a0 : Sl Field} {r : Bool}, Nf a0 = some r → ∀ {args : List PV}, [PV.d (.sl (E.aB a0.l) (E.aG a0.x))] = args → ∀ (st : St), Sat (Ω.cf 94 args st) (fun q => q = (PV.d (.bool r), st))
def H95 (Ω : Om) (E : Enc) (RF : Value → Option (Bool)) : Prop := ∀ {a0 : Value} {r : Bool}, RF a0 = some r → ∀ {args : List PV}, [aT E a0] = args → ∀ (st : St), Sat (Ω.cf 95 args st) (fun q => q = (PV.d (.bool r), st))
set_option maxHeartbeats 4000000 in
theorem aq5 {GN : Value → Option (Bool)} (aah : H78 Ω E GN) {QM : (Sl Value) → Option (Bool)} (afv : H93 Ω E QM) {Nf : (Sl Field) → Option (Bool)} (aai : H94 Ω E Nf) {RF : Value → Option (Bool)} (aiD : H95 Ω E RF) {a0 : Value} {r : Bool} (h : ahk fu GN QM Nf RF a0 = some r) {args : List PV} (ha : [aT E a0] = args) (st : St) :
 Sat (Ω.cf 78 args st) (fun q => q = (PV.d (.bool r), st)) := by
 subst ha
 rcases a0 with ⟨aD, aO, bN, ⟨aK, aS⟩, ⟨au, aA⟩, bO, bT, aQ⟩
 rw [aR hΩ (f := 78) (fn := Tryz.f78) (x := c78) rfl rfl ak0 rfl rfl rfl]
 unfold ahk at h
 try dsimp only at h
 conv => arg 1; cbv
 replace h := aW h
 obtain ⟨q, aox, h⟩ := h
 refine aI hΩ ((fun (q : Unit ⊕ Bool) => (match q with | .inl _ => (.normal, [(1, PV.bf (iY E aD aO bN aK aS au aA bO bT aQ)), (2, vb false), (4, PV.d (.int .u8 aD))], nO :: st) | .inr i62 => (.ret, [(1, PV.bf (iY E aD aO bN aK aS au aA bO bT aQ)), (2, vb i62), (4, PV.d (.int .u8 aD))], nO :: st))) q) (fun k hk => ?_) ?_
 clear h
 have h := aox
 clear aox
 conv => arg 1; cbv
 revert h; refine bU (fun hb1 h => cv ?_) fun hb1 h => cv ?_
 replace h := aW h
 obtain ⟨r2, hx3, h⟩ := h
 refine aH (WI hΩ hE hx3) (cv ?_)
 exact fk h hk
 replace h := aW h
 obtain ⟨q, aoy, h⟩ := h
 refine aI hΩ ((fun (q : Unit ⊕ Bool) => (match q with | .inl _ => (.normal, [(1, PV.bf (iY E aD aO bN aK aS au aA bO bT aQ)), (2, vb false), (4, PV.d (.int .u8 aD))], nO :: st) | .inr i60 => (.ret, [(1, PV.bf (iY E aD aO bN aK aS au aA bO bT aQ)), (2, vb i60), (4, PV.d (.int .u8 aD))], nO :: st))) q) (fun k hk => ?_) ?_
 clear h
 have h := aoy
 clear aoy
 conv => arg 1; cbv
 revert h; refine bU (fun hb4 h => cv ?_) fun hb4 h => cv ?_
 replace h := aW h
 obtain ⟨r5, hx6, h⟩ := h
 refine aH (WI hΩ hE hx6) (cv ?_)
 exact fk h hk
 replace h := aW h
 obtain ⟨q, aoz, h⟩ := h
 refine aI hΩ ((fun (q : Unit ⊕ Bool) => (match q with | .inl _ => (.normal, [(1, PV.bf (iY E aD aO bN aK aS au aA bO bT aQ)), (2, vb false), (4, PV.d (.int .u8 aD))], nO :: st) | .inr i58 => (.ret, [(1, PV.bf (iY E aD aO bN aK aS au aA bO bT aQ)), (2, vb i58), (4, PV.d (.int .u8 aD))], nO :: st))) q) (fun k hk => ?_) ?_
 clear h
 have h := aoz
 clear aoz
 conv => arg 1; cbv
 revert h; refine bU (fun AX h => cv ?_) fun AX h => cv ?_
 replace h := aW h
 obtain ⟨i12, vg, h⟩ := h
 refine aI hΩ ((fun (q : Bool) => (match q with | i12 => ([(1, PV.bf (iY E aD aO bN aK aS au aA bO bT aQ)), (2, vb false), (4, PV.d (.int .u8 aD)), (26, vb i12)], nO :: st))) i12) (fun k hk => ?_) ?_
 clear h
 have h := vg
 clear vg
 conv => arg 1; cbv
 replace h := aW h
 obtain ⟨r8, Uh, h⟩ := h
 refine aH (WI hΩ hE Uh) (cv ?_)
 revert h; refine bU (fun jo h => cv ?_) fun jo h => cv ?_
 revert h; refine bU (fun Ba h => cv ?_) fun Ba h => cv ?_
 exact fk h hk
 exact fk h hk
 exact fk h hk
 clear vg
 try dsimp only at h
 conv => arg 1; cbv
 refine aC hΩ (cv ?_)
 exact fk h hk
 replace h := aW h
 obtain ⟨q, aoA, h⟩ := h
 refine aI hΩ ((fun (q : Unit ⊕ Bool) => (match q with | .inl _ => (.normal, [(1, PV.bf (iY E aD aO bN aK aS au aA bO bT aQ)), (2, vb false), (4, PV.d (.int .u8 aD))], nO :: st) | .inr i56 => (.ret, [(1, PV.bf (iY E aD aO bN aK aS au aA bO bT aQ)), (2, vb i56), (4, PV.d (.int .u8 aD))], nO :: st))) q) (fun k hk => ?_) ?_
 clear h
 have h := aoA
 clear aoA
 conv => arg 1; cbv
 revert h; refine bU (fun nD h => cv ?_) fun nD h => cv ?_
 replace h := aW h
 obtain ⟨i18, aoB, h⟩ := h
 refine aI hΩ ((fun (q : Bool) => (match q with | i18 => ([(1, PV.bf (iY E aD aO bN aK aS au aA bO bT aQ)), (2, vb false), (4, PV.d (.int .u8 aD)), (36, vb i18)], nO :: st))) i18) (fun k hk => ?_) ?_
 clear h
 have h := aoB
 clear aoB
 conv => arg 1; cbv
 replace h := aW h
 obtain ⟨sJ, hx16, h⟩ := h
 refine aH (WI hΩ hE hx16) (cv ?_)
 revert h; refine bU (fun u7 h => cv ?_) fun u7 h => cv ?_
 exact fk h hk
 exact fk h hk
 clear aoB
 try dsimp only at h
 conv => arg 1; cbv
 refine aC hΩ (cv ?_)
 exact fk h hk
 replace h := aW h
 obtain ⟨q, WG, h⟩ := h
 refine aI hΩ ((fun (q : Unit ⊕ Bool) => (match q with | .inl _ => (.normal, [(1, PV.bf (iY E aD aO bN aK aS au aA bO bT aQ)), (2, vb false), (4, PV.d (.int .u8 aD))], nO :: st) | .inr i54 => (.ret, [(1, PV.bf (iY E aD aO bN aK aS au aA bO bT aQ)), (2, vb i54), (4, PV.d (.int .u8 aD))], nO :: st))) q) (fun k hk => ?_) ?_
 clear h
 have h := WG
 clear WG
 conv => arg 1; cbv
 revert h; refine bU (fun nZ h => cv ?_) fun nZ h => cv ?_
 replace h := aW h
 obtain ⟨i26, qj, h⟩ := h
 refine aI hΩ ((fun (q : Bool) => (match q with | i26 => ([(1, PV.bf (iY E aD aO bN aK aS au aA bO bT aQ)), (2, vb false), (4, PV.d (.int .u8 aD)), (45, vb i26)], nO :: st))) i26) (fun k hk => ?_) ?_
 clear h
 have h := qj
 clear qj
 conv => arg 1; cbv
 replace h := aW h
 obtain ⟨X5, Kr, h⟩ := h
 refine aH (WI hΩ hE Kr) (cv ?_)
 revert h; refine bU (fun yj h => cv ?_) fun yj h => cv ?_
 replace h := aW h
 obtain ⟨r24, hx25, h⟩ := h
 refine aH (afv hx25) (cv ?_)
 exact fk h hk
 exact fk h hk
 clear qj
 try dsimp only at h
 conv => arg 1; cbv
 refine aC hΩ (cv ?_)
 exact fk h hk
 replace h := aW h
 obtain ⟨q, Kz, h⟩ := h
 refine aI hΩ ((fun (q : Unit ⊕ Bool) => (match q with | .inl _ => (.normal, [(1, PV.bf (iY E aD aO bN aK aS au aA bO bT aQ)), (2, vb false), (4, PV.d (.int .u8 aD))], nO :: st) | .inr i52 => (.ret, [(1, PV.bf (iY E aD aO bN aK aS au aA bO bT aQ)), (2, vb i52), (4, PV.d (.int .u8 aD))], nO :: st))) q) (fun k hk => ?_) ?_
 clear h
 have h := Kz
 clear Kz
 conv => arg 1; cbv
 revert h; refine bU (fun afl h => cv ?_) fun afl h => cv ?_
 replace h := aW h
 obtain ⟨i34, WE, h⟩ := h
 refine aI hΩ ((fun (q : Bool) => (match q with | i34 => ([(1, PV.bf (iY E aD aO bN aK aS au aA bO bT aQ)), (2, vb false), (4, PV.d (.int .u8 aD)), (54, vb i34)], nO :: st))) i34) (fun k hk => ?_) ?_
 clear h
 have h := WE
 clear WE
 conv => arg 1; cbv
 replace h := aW h
 obtain ⟨r29, aoa, h⟩ := h
 refine aH (WI hΩ hE aoa) (cv ?_)
 revert h; refine bU (fun afe h => cv ?_) fun afe h => cv ?_
 replace h := aW h
 obtain ⟨r32, aoC, h⟩ := h
 refine aH (aai aoC) (cv ?_)
 exact fk h hk
 exact fk h hk
 clear WE
 try dsimp only at h
 conv => arg 1; cbv
 refine aC hΩ (cv ?_)
 exact fk h hk
 replace h := aW h
 obtain ⟨q, WK, h⟩ := h
 refine aI hΩ ((fun (q : Unit ⊕ Bool) => (match q with | .inl _ => (.normal, [(1, PV.bf (iY E aD aO bN aK aS au aA bO bT aQ)), (2, vb false), (4, PV.d (.int .u8 aD))], nO :: st) | .inr i50 => (.ret, [(1, PV.bf (iY E aD aO bN aK aS au aA bO bT aQ)), (2, vb i50), (4, PV.d (.int .u8 aD))], nO :: st))) q) (fun k hk => ?_) ?_
 clear h
 have h := WK
 clear WK
 conv => arg 1; cbv
 revert h; refine bU (fun yu h => cv ?_) fun yu h => cv ?_
 replace h := aW h
 obtain ⟨i40, WL, h⟩ := h
 refine aI hΩ ((fun (q : Bool) => (match q with | i40 => ([(1, PV.bf (iY E aD aO bN aK aS au aA bO bT aQ)), (2, vb false), (4, PV.d (.int .u8 aD)), (64, vb i40)], nO :: st))) i40) (fun k hk => ?_) ?_
 clear h
 have h := WL
 clear WL
 conv => arg 1; cbv
 replace h := aW h
 obtain ⟨r37, hx38, h⟩ := h
 refine aH (WI hΩ hE hx38) (cv ?_)
 revert h; refine bU (fun Rn h => cv ?_) fun Rn h => cv ?_
 exact fk h hk
 exact fk h hk
 clear WL
 try dsimp only at h
 conv => arg 1; cbv
 replace h := aW h
 obtain ⟨i44, WM, h⟩ := h
 refine aI hΩ ((fun (q : Bool) => (match q with | i44 => ([(1, PV.bf (iY E aD aO bN aK aS au aA bO bT aQ)), (2, vb false), (4, PV.d (.int .u8 aD)), (69, vb i44)], nO :: st))) i44) (fun k hk => ?_) ?_
 clear h
 have h := WM
 clear WM
 conv => arg 1; cbv
 revert h; refine bU (fun yx h => cv ?_) fun yx h => cv ?_
 replace h := aW h
 obtain ⟨r42, aoj, h⟩ := h
 refine aH (aai aoj) (cv ?_)
 exact fk h hk
 exact fk h hk
 clear WM
 try dsimp only at h
 conv => arg 1; cbv
 refine aC hΩ (cv ?_)
 exact fk h hk
 refine aC hΩ (cv ?_)
 revert h; refine bU (fun afw h => cv ?_) fun afw h => cv ?_
 replace h := aW h
 obtain ⟨r48, afx, h⟩ := h
 refine aH (aiD afx) (cv ?_)
 exact fk h hk
 exact fk h hk
 clear WK
 rcases q with _ | i50
 try dsimp only at h
 conv => arg 1; cbv
 exact fk h hk
 try dsimp only at h
 conv => arg 1; cbv
 exact fk h hk
 clear Kz
 rcases q with _ | i52
 try dsimp only at h
 conv => arg 1; cbv
 exact fk h hk
 try dsimp only at h
 conv => arg 1; cbv
 exact fk h hk
 clear WG
 rcases q with _ | i54
 try dsimp only at h
 conv => arg 1; cbv
 exact fk h hk
 try dsimp only at h
 conv => arg 1; cbv
 exact fk h hk
 clear aoA
 rcases q with _ | i56
 try dsimp only at h
 conv => arg 1; cbv
 exact fk h hk
 try dsimp only at h
 conv => arg 1; cbv
 exact fk h hk
 clear aoz
 rcases q with _ | i58
 try dsimp only at h
 conv => arg 1; cbv
 exact fk h hk
 try dsimp only at h
 conv => arg 1; cbv
 exact fk h hk
 clear aoy
 rcases q with _ | i60
 try dsimp only at h
 conv => arg 1; cbv
 exact fk h hk
 try dsimp only at h
 conv => arg 1; cbv
 exact fk h hk
 clear aox
 rcases q with _ | i62
 try dsimp only at h
 conv => arg 1; cbv
 exact sp h
 try dsimp only at h
 conv => arg 1; cbv
 exact sp h
set_option maxHeartbeats 4000000 in
theorem aq6 {GN : Value → Option (Bool)} (aah : H78 Ω E GN) {QM : (Sl Value) → Option (Bool)} (afv : H93 Ω E QM) {Nf : (Sl Field) → Option (Bool)} (aai : H94 Ω E Nf) {RF : Value → Option (Bool)} (aiD : H95 Ω E RF) {a0 : Sl Value} {r : Bool} (h : ahl fu GN QM Nf RF a0 = some r) {args : List PV} (ha : [PV.d (.sl (E.aN a0.l) (E.aU a0.x))] = args) (st : St) :
 Sat (Ω.cf 93 args st) (fun q => q = (PV.d (.bool r), st)) := by
 subst ha
 rcases a0 with ⟨ah, aY⟩
 rw [aR hΩ (f := 93) (fn := Tryz.f93) (x := c93) rfl rfl ak7 rfl rfl rfl]
 unfold ahl at h
 try dsimp only at h
 conv => arg 1; cbv
 replace h := aW h
 obtain ⟨q, ER, h⟩ := h
 refine dL hΩ (fun (a : Int) => (match a with | i1 => ([(0, PV.d (.sl (E.aN ah) (E.aU aY))), (2, vb false), (3, vi i1)], nO :: st))) (fun (q : Int ⊕ Int) => (match q with | .inl K4 => (.exit 0, [(0, PV.d (.sl (E.aN ah) (E.aU aY))), (2, vb false), (3, vi K4)], nO :: st) | .inr wX => (.ret, [(0, PV.d (.sl (E.aN ah) (E.aU aY))), (2, vb false), (3, vi wX)], nO :: st))) 0 ER ?_ ?_
 clear h ER
 rintro i1 q h
 unfold Jz at h
 dsimp only at h
 conv => arg 1; cbv
 refine av hΩ (aF hE) ah fun n2 hn3 => cv ?_
 refine aC hΩ (cv ?_)
 revert h; refine bU (fun hb4 h => cv ?_) fun hb4 h => cv ?_
 refine sat_true (bg hΩ (aF hE) ah) (cv ?_)
 replace h := aW h
 obtain ⟨⟨qB, ad1, ad2, ⟨TT, TU⟩, ⟨TV, TW⟩, ad3, ad4, ad5⟩, hx6, h⟩ := h
 try dsimp only at h
 refine aM (bG hΩ (aF hE) hx6) (cv ?_)
 replace h := aW h
 obtain ⟨r7, AY, h⟩ := h
 refine aH (aah AY) (cv ?_)
 refine aC hΩ (cv ?_)
 revert h; refine bU (fun nC h => cv ?_) fun nC h => cv ?_
 obtain rfl := fV h
 subst_vars
 exact sR
 obtain rfl := fV h
 subst_vars
 exact s3
 obtain rfl := fV h
 subst_vars
 exact sL
 clear ER
 rcases q with K4 | wX
 dsimp only at h
 conv => arg 1; cbv
 exact sp h
 dsimp only at h
 conv => arg 1; cbv
 exact sp h
set_option maxHeartbeats 4000000 in
theorem aq7 {GN : Value → Option (Bool)} (aah : H78 Ω E GN) {QM : (Sl Value) → Option (Bool)} (afv : H93 Ω E QM) {Nf : (Sl Field) → Option (Bool)} (aai : H94 Ω E Nf) {RF : Value → Option (Bool)} (aiD : H95 Ω E RF) {a0 : Sl Field} {r : Bool} (h : ahm fu GN QM Nf RF a0 = some r) {args : List PV} (ha : [PV.d (.sl (E.aB a0.l) (E.aG a0.x))] = args) (st : St) :
 Sat (Ω.cf 94 args st) (fun q => q = (PV.d (.bool r), st)) := by
 subst ha
 rcases a0 with ⟨ah, aY⟩
 rw [aR hΩ (f := 94) (fn := Tryz.f94) (x := c94) rfl rfl ak8 rfl rfl rfl]
 unfold ahm at h
 try dsimp only at h
 conv => arg 1; cbv
 replace h := aW h
 obtain ⟨q, Bb, h⟩ := h
 refine dL hΩ (fun (a : Int) => (match a with | i1 => ([(0, PV.d (.sl (E.aB ah) (E.aG aY))), (2, vb false), (3, vi i1)], nO :: st))) (fun (q : Int ⊕ Int) => (match q with | .inl Uu => (.exit 0, [(0, PV.d (.sl (E.aB ah) (E.aG aY))), (2, vb false), (3, vi Uu)], nO :: st) | .inr o30 => (.ret, [(0, PV.d (.sl (E.aB ah) (E.aG aY))), (2, vb false), (3, vi o30)], nO :: st))) 0 Bb ?_ ?_
 clear h Bb
 rintro i1 q h
 unfold JA at h
 dsimp only at h
 conv => arg 1; cbv
 refine av hΩ (ak hE) ah fun n2 hn3 => cv ?_
 refine aC hΩ (cv ?_)
 revert h; refine bU (fun hb4 h => cv ?_) fun hb4 h => cv ?_
 refine aC hΩ (cv ?_)
 refine sat_true (bg hΩ (ak hE) ah) (cv ?_)
 replace h := aW h
 obtain ⟨⟨qB, ⟨xG, xH, xI, ⟨qc, qd⟩, ⟨qg, qh⟩, xJ, xK, xL⟩⟩, hx6, h⟩ := h
 try dsimp only at h
 refine aM (bG hΩ (ak hE) hx6) (cv ?_)
 replace h := aW h
 obtain ⟨r7, AY, h⟩ := h
 refine aH (Y6 hΩ hE AY) (cv ?_)
 revert h; refine bU (fun nC h => cv ?_) fun nC h => cv ?_
 revert h; refine bU (fun jo h => cv ?_) fun jo h => cv ?_
 refine aj hΩ (cv ?_)
 refine sat_true (bg hΩ (ak hE) ah) (cv ?_)
 replace h := aW h
 obtain ⟨⟨qb, ⟨AL, AO, AP, ⟨uV, uW⟩, ⟨uX, uY⟩, AQ, AU, AV⟩⟩, AZ, h⟩ := h
 try dsimp only at h
 refine aM (bG hΩ (ak hE) AZ) (cv ?_)
 refine sat_true (bg hΩ (ak hE) ah) (cv ?_)
 replace h := aW h
 obtain ⟨⟨Dn, ⟨VP, VQ, VR, ⟨QN, QO⟩, ⟨QS, QT⟩, VT, VU, VW⟩⟩, EP, h⟩ := h
 try dsimp only at h
 refine aM (bG hΩ (ak hE) EP) (cv ?_)
 refine aj hΩ (cv ?_)
 replace h := aW h
 obtain ⟨i20, qo, h⟩ := h
 refine aI hΩ ((fun (q : Bool) => (match q with | i20 => ([(0, PV.d (.sl (E.aB ah) (E.aG aY))), (2, vb false), (3, vi i1), (43, vb i20)], nO :: st))) i20) (fun k hk => ?_) ?_
 clear h
 have h := qo
 clear qo
 conv => arg 1; cbv
 revert h; refine bU (fun Rp h => cv ?_) fun Rp h => cv ?_
 refine sat_true (bg hΩ (ak hE) ah) (cv ?_)
 replace h := aW h
 obtain ⟨⟨TY, ⟨JB, JC, JD, ⟨Dp, Dq⟩, ⟨Dr, Dt⟩, JE, JF, JG⟩⟩, WO, h⟩ := h
 try dsimp only at h
 refine aM (bG hΩ (ak hE) WO) (cv ?_)
 replace h := aW h
 obtain ⟨TR, EX, h⟩ := h
 refine aH (aah EX) (cv ?_)
 exact fk h hk
 exact fk h hk
 clear qo
 try dsimp only at h
 conv => arg 1; cbv
 refine aC hΩ (cv ?_)
 revert h; refine bU (fun EM h => cv ?_) fun EM h => cv ?_
 obtain rfl := fV h
 subst_vars
 exact sR
 obtain rfl := fV h
 subst_vars
 exact s3
 refine aj hΩ (cv ?_)
 refine aj hΩ (cv ?_)
 refine aC hΩ (cv ?_)
 refine sat_true (bg hΩ (ak hE) ah) (cv ?_)
 replace h := aW h
 obtain ⟨⟨mY, ⟨xQ, xR, xS, ⟨qN, qO⟩, ⟨qP, qQ⟩, xU, xV, xW⟩⟩, hx24, h⟩ := h
 try dsimp only at h
 refine aM (bG hΩ (ak hE) hx24) (cv ?_)
 replace h := aW h
 obtain ⟨Yl, rJ, h⟩ := h
 refine aH (aah rJ) (cv ?_)
 refine aC hΩ (cv ?_)
 revert h; refine bU (fun EW h => cv ?_) fun EW h => cv ?_
 obtain rfl := fV h
 subst_vars
 exact sR
 obtain rfl := fV h
 subst_vars
 exact s3
 refine aj hΩ (cv ?_)
 refine aj hΩ (cv ?_)
 refine aC hΩ (cv ?_)
 refine aC hΩ (cv ?_)
 obtain rfl := fV h
 subst_vars
 exact sR
 obtain rfl := fV h
 subst_vars
 exact sL
 clear Bb
 rcases q with Uu | o30
 dsimp only at h
 conv => arg 1; cbv
 exact sp h
 dsimp only at h
 conv => arg 1; cbv
 exact sp h
set_option maxHeartbeats 4000000 in
theorem aq8 {GN : Value → Option (Bool)} (aah : H78 Ω E GN) {QM : (Sl Value) → Option (Bool)} (afv : H93 Ω E QM) {Nf : (Sl Field) → Option (Bool)} (aai : H94 Ω E Nf) {RF : Value → Option (Bool)} (aiD : H95 Ω E RF) {a0 : Value} {r : Bool} (h : ahn fu GN QM Nf RF a0 = some r) {args : List PV} (ha : [aT E a0] = args) (st : St) :
 Sat (Ω.cf 95 args st) (fun q => q = (PV.d (.bool r), st)) := by
 subst ha
 rcases a0 with ⟨aD, aO, bN, ⟨aK, aS⟩, ⟨au, aA⟩, bO, bT, aQ⟩
 rw [aR hΩ (f := 95) (fn := Tryz.f95) (x := c95) rfl rfl ak9 rfl rfl rfl]
 unfold ahn at h
 try dsimp only at h
 conv => arg 1; cbv
 replace h := aW h
 obtain ⟨i3, WH, h⟩ := h
 refine aI hΩ ((fun (q : Bool) => (match q with | i3 => ([(1, PV.bf (iY E aD aO bN aK aS au aA bO bT aQ)), (2, vb false), (15, vb i3)], nO :: st))) i3) (fun k hk => ?_) ?_
 clear h
 have h := WH
 clear WH
 conv => arg 1; cbv
 revert h; refine bU (fun hb1 h => cv ?_) fun hb1 h => cv ?_
 revert h; refine bU (fun hb2 h => cv ?_) fun hb2 h => cv ?_
 refine aj hΩ (cv ?_)
 exact fk h hk
 refine aj hΩ (cv ?_)
 exact fk h hk
 refine aj hΩ (cv ?_)
 exact fk h hk
 clear WH
 try dsimp only at h
 conv => arg 1; cbv
 replace h := aW h
 obtain ⟨i5, Kz, h⟩ := h
 refine aI hΩ ((fun (q : Bool) => (match q with | i5 => ([(1, PV.bf (iY E aD aO bN aK aS au aA bO bT aQ)), (2, vb false), (21, vb i5)], nO :: st))) i5) (fun k hk => ?_) ?_
 clear h
 have h := Kz
 clear Kz
 conv => arg 1; cbv
 revert h; refine bU (fun hb4 h => cv ?_) fun hb4 h => cv ?_
 exact fk h hk
 exact fk h hk
 clear Kz
 try dsimp only at h
 conv => arg 1; cbv
 replace h := aW h
 obtain ⟨i9, qp, h⟩ := h
 refine aI hΩ ((fun (q : Bool) => (match q with | i9 => ([(1, PV.bf (iY E aD aO bN aK aS au aA bO bT aQ)), (2, vb false), (27, vb i9)], nO :: st))) i9) (fun k hk => ?_) ?_
 clear h
 have h := qp
 clear qp
 conv => arg 1; cbv
 revert h; refine bU (fun hb6 h => cv ?_) fun hb6 h => cv ?_
 replace h := aW h
 obtain ⟨r7, AY, h⟩ := h
 refine aH (aai AY) (cv ?_)
 exact fk h hk
 exact fk h hk
 clear qp
 try dsimp only at h
 conv => arg 1; cbv
 replace h := aW h
 obtain ⟨zw, WK, h⟩ := h
 refine aI hΩ ((fun (q : Bool) => (match q with | zw => ([(1, PV.bf (iY E aD aO bN aK aS au aA bO bT aQ)), (2, vb false), (33, vb zw)], nO :: st))) zw) (fun k hk => ?_) ?_
 clear h
 have h := WK
 clear WK
 conv => arg 1; cbv
 revert h; refine bU (fun jo h => cv ?_) fun jo h => cv ?_
 replace h := aW h
 obtain ⟨r11, AZ, h⟩ := h
 refine aH (afv AZ) (cv ?_)
 exact fk h hk
 exact fk h hk
 clear WK
 try dsimp only at h
 conv => arg 1; cbv
 refine aC hΩ (cv ?_)
 revert h; refine bU (fun nD h => cv ?_) fun nD h => cv ?_
 exact sp h
 replace h := aW h
 obtain ⟨i19, WQ, h⟩ := h
 refine aI hΩ ((fun (q : Bool) => (match q with | i19 => (.normal, [(1, PV.bf (iY E aD aO bN aK aS au aA bO bT aQ)), (2, vb false), (35, PV.d (.int .u8 bO)), (36, vb i19)], nO :: st))) i19) (fun k hk => ?_) ?_
 clear h
 have h := WQ
 clear WQ
 conv => arg 1; cbv
 revert h; refine bU (fun Rp h => cv ?_) fun Rp h => cv ?_
 exact fk h hk
 replace h := aW h
 obtain ⟨i17, Ky, h⟩ := h
 refine aI hΩ ((fun (q : Bool) => (match q with | i17 => (.normal, [(1, PV.bf (iY E aD aO bN aK aS au aA bO bT aQ)), (2, vb false), (35, PV.d (.int .u8 bO)), (36, vb i17)], nO :: st))) i17) (fun k hk => ?_) ?_
 clear h
 have h := Ky
 clear Ky
 conv => arg 1; cbv
 revert h; refine bU (fun qm h => cv ?_) fun qm h => cv ?_
 exact fk h hk
 exact fk h hk
 clear Ky
 try dsimp only at h
 conv => arg 1; cbv
 exact fk h hk
 clear WQ
 try dsimp only at h
 conv => arg 1; cbv
 refine aC hΩ (cv ?_)
 revert h; refine bU (fun nZ h => cv ?_) fun nZ h => cv ?_
 replace h := aW h
 obtain ⟨X5, Kr, h⟩ := h
 refine aH (Y6 hΩ hE Kr) (cv ?_)
 exact sp h
 refine aC hΩ (cv ?_)
 revert h; refine bU (fun yj h => cv ?_) fun yj h => cv ?_
 refine aC hΩ (cv ?_)
 revert h; refine bU (fun yt h => cv ?_) fun yt h => cv ?_
 refine av hΩ (ak hE) au fun n25 atK => cv ?_
 refine aC hΩ (cv ?_)
 exact sp h
 refine aC hΩ (cv ?_)
 exact sp h
 refine aC hΩ (cv ?_)
 revert h; refine bU (fun EW h => cv ?_) fun EW h => cv ?_
 refine aC hΩ (cv ?_)
 replace h := aW h
 obtain ⟨r28, hx29, h⟩ := h
 refine aH (Y6 hΩ hE hx29) (cv ?_)
 revert h; refine bU (fun Wq h => cv ?_) fun Wq h => cv ?_
 refine av hΩ (ak hE) au fun n31 hn32 => cv ?_
 refine aC hΩ (cv ?_)
 exact sp h
 refine aC hΩ (cv ?_)
 exact sp h
 refine aC hΩ (cv ?_)
 revert h; refine bU (fun EJ h => cv ?_) fun EJ h => cv ?_
 refine aC hΩ (cv ?_)
 replace h := aW h
 obtain ⟨r34, afj, h⟩ := h
 refine aH (Y6 hΩ hE afj) (cv ?_)
 revert h; refine bU (fun yu h => cv ?_) fun yu h => cv ?_
 replace h := aW h
 obtain ⟨r37, hx38, h⟩ := h
 refine aH (afu hΩ hE hx38) (cv ?_)
 refine aC hΩ (cv ?_)
 exact sp h
 refine aC hΩ (cv ?_)
 exact sp h
 refine aC hΩ (cv ?_)
 revert h; refine bU (fun Rn h => cv ?_) fun Rn h => cv ?_
 refine aC hΩ (cv ?_)
 revert h; refine bU (fun EY h => cv ?_) fun EY h => cv ?_
 replace h := aW h
 obtain ⟨l41, asU, h⟩ := h
 have aq9 : ([[.str (⟨#[97, 103, 97, 105, 110]⟩ : ByteArray)], [.str (⟨#[101, 108, 115, 101]⟩ : ByteArray)]] : List (List D)) = E.fQ l41 := by (have hy := Option.some.inj asU; clear h; subst hy; subst hE; rfl)
 rw [aq9]
 clear aq9
 conv => arg 1; cbv
 replace h := aW h
 obtain ⟨r44, asV, h⟩ := h
 refine aH (afu hΩ hE asV) (cv ?_)
 refine aC hΩ (cv ?_)
 exact sp h
 refine aC hΩ (cv ?_)
 exact sp h
 refine aC hΩ (cv ?_)
 revert h; refine bU (fun asW h => cv ?_) fun asW h => cv ?_
 refine aC hΩ (cv ?_)
 revert h; refine bU (fun afw h => cv ?_) fun afw h => cv ?_
 replace h := aW h
 obtain ⟨r48, afx, h⟩ := h
 refine aH (afu hΩ hE afx) (cv ?_)
 refine aC hΩ (cv ?_)
 exact sp h
 refine aC hΩ (cv ?_)
 exact sp h
 exact sp h
theorem ara : ∀ fu,
 (∀ {a0 : Value} {r : Bool}, Uv fu a0 = some r → ∀ {args : List PV}, [aT E a0] = args → ∀ (st : St), Sat (Ω.cf 78 args st) (fun q => q = (PV.d (.bool r), st))) ∧
 (∀ {a0 : Sl Value} {r : Bool}, P93 fu a0 = some r → ∀ {args : List PV}, [PV.d (.sl (E.aN a0.l) (E.aU a0.x))] = args → ∀ (st : St), Sat (Ω.cf 93 args st) (fun q => q = (PV.d (.bool r), st))) ∧
 (∀ {a0 : Sl Field} {r : Bool}, P94 fu a0 = some r → ∀ {args : List PV}, [PV.d (.sl (E.aB a0.l) (E.aG a0.x))] = args → ∀ (st : St), Sat (Ω.cf 94 args st) (fun q => q = (PV.d (.bool r), st))) ∧
 (∀ {a0 : Value} {r : Bool}, P95 fu a0 = some r → ∀ {args : List PV}, [aT E a0] = args → ∀ (st : St), Sat (Ω.cf 95 args st) (fun q => q = (PV.d (.bool r), st))) := by
 intro fu
 induction fu with
 | zero => exact ⟨(fun h => (by cases h)), (fun h => (by cases h)), (fun h => (by cases h)), (fun h => (by cases h))⟩
 | succ fu ih =>
  obtain ⟨i78, i93, i94, i95⟩ := ih
  exact ⟨(fun h => @fun args ha st => aq5 (fu := fu) hΩ hE i78 i93 i94 i95 h ha st), (fun h => @fun args ha st => aq6 (fu := fu) hΩ hE i78 i93 i94 i95 h ha st), (fun h => @fun args ha st => aq7 (fu := fu) hΩ hE i78 i93 i94 i95 h ha st), (fun h => @fun args ha st => aq8 (fu := fu) hΩ hE i78 i93 i94 i95 h ha st)⟩
theorem asX : ∀ {a0 : Value} {r : Bool}, Uv fu a0 = some r → ∀ {args : List PV}, [aT E a0] = args → ∀ (st : St), Sat (Ω.cf 78 args st) (fun q => q = (PV.d (.bool r), st)) := (ara hΩ hE fu).1
def H79 (Ω : Om) (E : Enc) (p79 : Value → Option (Int)) : Prop := ∀ {a0 : Value} {r : Int}, p79 a0 = some r → ∀ {args : List PV}, [aT E a0] = args → ∀ (st : St), Sat (Ω.cf 79 args st) (fun q => q = (PV.d (.int .i64 r), st))
set_option maxHeartbeats 4000000 in
theorem arb {p79 : Value → Option (Int)} (ard : H79 Ω E p79) {a0 : Value} {r : Int} (h : aho fu p79 a0 = some r) {args : List PV} (ha : [aT E a0] = args) (st : St) :
 Sat (Ω.cf 79 args st) (fun q => q = (PV.d (.int .i64 r), st)) := by
 subst ha
 rcases a0 with ⟨aD, aO, bN, ⟨aK, aS⟩, ⟨au, aA⟩, bO, bT, aQ⟩
 rw [aR hΩ (f := 79) (fn := Tryz.f79) (x := c79) rfl rfl ak1 rfl rfl rfl]
 unfold aho at h
 try dsimp only at h
 conv => arg 1; cbv
 replace h := aW h
 obtain ⟨q, ER, h⟩ := h
 refine dL hΩ (fun (a : Int × Int) => (match a with | (i1, i2) => ([(1, PV.bf (iY E aD aO bN aK aS au aA bO bT aQ)), (2, vi 0), (3, vi i1), (4, vi i2)], nO :: st))) (fun (q : (Int × Int)) => (match q with | (K4, wX) => (.exit 0, [(1, PV.bf (iY E aD aO bN aK aS au aA bO bT aQ)), (2, vi 0), (3, vi K4), (4, vi wX)], nO :: st))) (1, 0) ER ?_ ?_
 clear h ER
 rintro ⟨i1, i2⟩ q h
 unfold JH at h
 dsimp only at h
 conv => arg 1; cbv
 refine av hΩ (aF hE) aK fun n3 FP => cv ?_
 refine aC hΩ (cv ?_)
 revert h; refine bU (fun hb5 h => cv ?_) fun hb5 h => cv ?_
 refine sat_true (bg hΩ (aF hE) aK) (cv ?_)
 replace h := aW h
 obtain ⟨⟨sj, vK, TM, ⟨FL, FM⟩, ⟨mW, mX⟩, TN, TP, TQ⟩, hx7, h⟩ := h
 try dsimp only at h
 refine aM (bG hΩ (aF hE) hx7) (cv ?_)
 replace h := aW h
 obtain ⟨r8, Uh, h⟩ := h
 refine aH (ard Uh) (cv ?_)
 obtain rfl := fV h
 subst_vars
 exact s3
 obtain rfl := fV h
 subst_vars
 exact sL
 clear ER
 rcases q with ⟨K4, wX⟩
 dsimp only at h
 conv => arg 1; cbv
 replace h := aW h
 obtain ⟨q, ET, h⟩ := h
 refine dL hΩ (fun (a : Int × Int) => (match a with | (zw, qy) => ([(1, PV.bf (iY E aD aO bN aK aS au aA bO bT aQ)), (2, vi 0), (3, vi zw), (4, vi wX), (5, vi qy)], nO :: st))) (fun (q : (Int × Int)) => (match q with | (o23, sI) => (.exit 2, [(1, PV.bf (iY E aD aO bN aK aS au aA bO bT aQ)), (2, vi 0), (3, vi o23), (4, vi wX), (5, vi sI)], nO :: st))) (K4, 0) ET ?_ ?_
 clear h ET
 rintro ⟨zw, qy⟩ q h
 unfold JI at h
 dsimp only at h
 conv => arg 1; cbv
 refine av hΩ (ak hE) au fun n15 hn16 => cv ?_
 refine aC hΩ (cv ?_)
 revert h; refine bU (fun u7 h => cv ?_) fun u7 h => cv ?_
 refine sat_true (bg hΩ (ak hE) au) (cv ?_)
 replace h := aW h
 obtain ⟨⟨aqd, ⟨ad6, ad7, ad8, ⟨Yp, Yq⟩, ⟨Yr, Yt⟩, ad9, aea, aeb⟩⟩, EX, h⟩ := h
 try dsimp only at h
 refine aM (bG hΩ (ak hE) EX) (cv ?_)
 replace h := aW h
 obtain ⟨r20, afi, h⟩ := h
 refine aH (ard afi) (cv ?_)
 obtain rfl := fV h
 subst_vars
 exact s3
 obtain rfl := fV h
 subst_vars
 exact sL
 clear ET
 rcases q with ⟨o23, sI⟩
 dsimp only at h
 conv => arg 1; cbv
 exact sp h
theorem arf : ∀ fu,
 (∀ {a0 : Value} {r : Int}, P79 fu a0 = some r → ∀ {args : List PV}, [aT E a0] = args → ∀ (st : St), Sat (Ω.cf 79 args st) (fun q => q = (PV.d (.int .i64 r), st))) := by
 intro fu
 induction fu with
 | zero => exact (fun h => (by cases h))
 | succ fu ih =>
  have i79 := @ih
  exact @fun _ _ h args ha st => arb (fu := fu) hΩ hE i79 h ha st
theorem asY : ∀ {a0 : Value} {r : Int}, P79 fu a0 = some r → ∀ {args : List PV}, [aT E a0] = args → ∀ (st : St), Sat (Ω.cf 79 args st) (fun q => q = (PV.d (.int .i64 r), st)) := (arf hΩ hE fu)
def H80 (Ω : Om) (E : Enc) (p80 : Value → Option (Int)) : Prop := ∀ {a0 : Value} {r : Int}, p80 a0 = some r → ∀ {args : List PV}, [aT E a0] = args → ∀ (st : St), Sat (Ω.cf 80 args st) (fun q => q = (PV.d (.int .i64 r), st))
set_option maxHeartbeats 4000000 in
theorem arh {p80 : Value → Option (Int)} (ari : H80 Ω E p80) {a0 : Value} {r : Int} (h : ahp fu p80 a0 = some r) {args : List PV} (ha : [aT E a0] = args) (st : St) :
 Sat (Ω.cf 80 args st) (fun q => q = (PV.d (.int .i64 r), st)) := by
 subst ha
 rcases a0 with ⟨aD, aO, bN, ⟨aK, aS⟩, ⟨au, aA⟩, bO, bT, aQ⟩
 rw [aR hΩ (f := 80) (fn := Tryz.f80) (x := c80) rfl rfl ak2 rfl rfl rfl]
 unfold ahp at h
 try dsimp only at h
 conv => arg 1; cbv
 replace h := aW h
 obtain ⟨q, aoD, h⟩ := h
 refine dL hΩ (fun (a : Int × Int) => (match a with | (i1, i2) => ([(1, PV.bf (iY E aD aO bN aK aS au aA bO bT aQ)), (2, vi 0), (3, vi i1), (4, vi i2)], nO :: st))) (fun (q : (Int × Int)) => (match q with | (Mj, KS) => (.exit 0, [(1, PV.bf (iY E aD aO bN aK aS au aA bO bT aQ)), (2, vi 0), (3, vi Mj), (4, vi KS)], nO :: st))) (0, 0) aoD ?_ ?_
 clear h aoD
 rintro ⟨i1, i2⟩ q h
 unfold JJ at h
 dsimp only at h
 conv => arg 1; cbv
 refine av hΩ (aF hE) aK fun n3 FP => cv ?_
 refine aC hΩ (cv ?_)
 revert h; refine bU (fun hb5 h => cv ?_) fun hb5 h => cv ?_
 replace h := aW h
 obtain ⟨i11, hq12, h⟩ := h
 refine aI hΩ ((fun (q : Int) => (match q with | i11 => ([(1, PV.bf (iY E aD aO bN aK aS au aA bO bT aQ)), (2, vi 0), (3, vi i11), (4, vi i2)], nO :: st))) i11) (fun k hk => ?_) ?_
 clear h
 have h := hq12
 clear hq12
 conv => arg 1; cbv
 refine sat_true (bg hΩ (aF hE) aK) (cv ?_)
 replace h := aW h
 obtain ⟨⟨sj, vK, TM, ⟨FL, FM⟩, ⟨mW, mX⟩, TN, TP, TQ⟩, hx7, h⟩ := h
 try dsimp only at h
 refine aM (bG hΩ (aF hE) hx7) (cv ?_)
 replace h := aW h
 obtain ⟨r8, Uh, h⟩ := h
 refine aH (ari Uh) (cv ?_)
 revert h; refine bU (fun jo h => cv ?_) fun jo h => cv ?_
 exact fk h hk
 exact fk h hk
 clear hq12
 try dsimp only at h
 conv => arg 1; cbv
 obtain rfl := fV h
 subst_vars
 exact s3
 obtain rfl := fV h
 subst_vars
 exact sL
 clear aoD
 rcases q with ⟨Mj, KS⟩
 dsimp only at h
 conv => arg 1; cbv
 replace h := aW h
 obtain ⟨q, Bb, h⟩ := h
 refine dL hΩ (fun (a : Int × Int) => (match a with | (i16, i17) => ([(1, PV.bf (iY E aD aO bN aK aS au aA bO bT aQ)), (2, vi 0), (3, vi i16), (4, vi KS), (5, vi i17)], nO :: st))) (fun (q : (Int × Int)) => (match q with | (Uu, o30) => (.exit 2, [(1, PV.bf (iY E aD aO bN aK aS au aA bO bT aQ)), (2, vi 0), (3, vi Uu), (4, vi KS), (5, vi o30)], nO :: st))) (Mj, 0) Bb ?_ ?_
 clear h Bb
 rintro ⟨i16, i17⟩ q h
 unfold JK at h
 dsimp only at h
 conv => arg 1; cbv
 refine av hΩ (ak hE) au fun n18 atL => cv ?_
 refine aC hΩ (cv ?_)
 revert h; refine bU (fun nZ h => cv ?_) fun nZ h => cv ?_
 replace h := aW h
 obtain ⟨i26, qj, h⟩ := h
 refine aI hΩ ((fun (q : Int) => (match q with | i26 => ([(1, PV.bf (iY E aD aO bN aK aS au aA bO bT aQ)), (2, vi 0), (3, vi i26), (4, vi KS), (5, vi i17)], nO :: st))) i26) (fun k hk => ?_) ?_
 clear h
 have h := qj
 clear qj
 conv => arg 1; cbv
 refine sat_true (bg hΩ (ak hE) au) (cv ?_)
 replace h := aW h
 obtain ⟨⟨aqe, ⟨aec, aed, aee, ⟨Yu, Yv⟩, ⟨Yw, Yx⟩, aef, aeg, aeh⟩⟩, Kr, h⟩ := h
 try dsimp only at h
 refine aM (bG hΩ (ak hE) Kr) (cv ?_)
 replace h := aW h
 obtain ⟨r23, hx24, h⟩ := h
 refine aH (ari hx24) (cv ?_)
 revert h; refine bU (fun Rk h => cv ?_) fun Rk h => cv ?_
 exact fk h hk
 exact fk h hk
 clear qj
 try dsimp only at h
 conv => arg 1; cbv
 obtain rfl := fV h
 subst_vars
 exact s3
 obtain rfl := fV h
 subst_vars
 exact sL
 clear Bb
 rcases q with ⟨Uu, o30⟩
 dsimp only at h
 conv => arg 1; cbv
 exact sp h
theorem arj : ∀ fu,
 (∀ {a0 : Value} {r : Int}, P80 fu a0 = some r → ∀ {args : List PV}, [aT E a0] = args → ∀ (st : St), Sat (Ω.cf 80 args st) (fun q => q = (PV.d (.int .i64 r), st))) := by
 intro fu
 induction fu with
 | zero => exact (fun h => (by cases h))
 | succ fu ih =>
  have i80 := @ih
  exact @fun _ _ h args ha st => arh (fu := fu) hΩ hE i80 h ha st
theorem asZ : ∀ {a0 : Value} {r : Int}, P80 fu a0 = some r → ∀ {args : List PV}, [aT E a0] = args → ∀ (st : St), Sat (Ω.cf 80 args st) (fun q => q = (PV.d (.int .i64 r), st)) := (arj hΩ hE fu)
set_option maxHeartbeats 4000000 in
theorem WR {a0 : Value} {r : Bool} (h : P54 fu a0 = some r) {args : List PV} (ha : [aT E a0] = args) (st : St) :
 Sat (Ω.cf 54 args st) (fun q => q = (PV.d (.bool r), st)) := by
 subst ha
 rcases a0 with ⟨aD, aO, bN, ⟨aK, aS⟩, ⟨au, aA⟩, bO, bT, aQ⟩
 rw [aR hΩ (f := 54) (fn := Tryz.f54) (x := c54) rfl rfl akR rfl rfl rfl]
 unfold P54 at h
 try dsimp only at h
 conv => arg 1; cbv
 replace h := aW h
 obtain ⟨i9, Ww, h⟩ := h
 refine aI hΩ ((fun (q : Bool) => (match q with | i9 => ([(1, PV.bf (iY E aD aO bN aK aS au aA bO bT aQ)), (2, vb i9)], nO :: st))) i9) (fun k hk => ?_) ?_
 clear h
 have h := Ww
 clear Ww
 conv => arg 1; cbv
 replace h := aW h
 obtain ⟨r1, hx2, h⟩ := h
 refine aH (asX hΩ hE hx2) (cv ?_)
 revert h; refine bU (fun hb3 h => cv ?_) fun hb3 h => cv ?_
 replace h := aW h
 obtain ⟨r4, hx5, h⟩ := h
 refine aH (asY hΩ hE hx5) (cv ?_)
 revert h; refine bU (fun hb6 h => cv ?_) fun hb6 h => cv ?_
 replace h := aW h
 obtain ⟨r7, AY, h⟩ := h
 refine aH (asZ hΩ hE AY) (cv ?_)
 refine aj hΩ (cv ?_)
 exact fk h hk
 refine aj hΩ (cv ?_)
 exact fk h hk
 refine aj hΩ (cv ?_)
 exact fk h hk
 clear Ww
 try dsimp only at h
 conv => arg 1; cbv
 exact sp h
set_option maxHeartbeats 4000000 in
theorem aoE {a0 : Cell} {r : Bool} (h : P55 fu a0 = some r) {args : List PV} (ha : [jA E a0] = args) (st : St) :
 Sat (Ω.cf 55 args st) (fun q => q = (PV.d (.bool r), st)) := by
 subst ha
 rcases a0 with ⟨aD, aO, ⟨cu, cB, cK, ⟨bA, bB⟩, ⟨bC, bE⟩, dz, cO, dA⟩, ⟨dD, dF, dG, ⟨bH, bI⟩, ⟨bJ, bK⟩, dH, dI, dJ⟩, ⟨au, aA⟩, ⟨dh, dM⟩, ⟨dN, dP⟩, ⟨cZ, dw⟩, eX, eH, ⟨dK, dQ⟩, ⟨dn, dO⟩⟩
 rw [aR hΩ (f := 55) (fn := Tryz.f55) (x := c55) rfl rfl akS rfl rfl rfl]
 unfold P55 at h
 try dsimp only at h
 conv => arg 1; cbv
 replace h := aW h
 obtain ⟨i12, Wv, h⟩ := h
 refine aI hΩ ((fun (q : Bool) => (match q with | i12 => ([(1, PV.bf (mI E aD aO cu cB cK bA bB bC bE dz cO dA dD dF dG bH bI bJ bK dH dI dJ au aA dh dM dN dP cZ dw eX eH dK dQ dn dO)), (2, vb false), (27, vb i12)], nO :: st))) i12) (fun k hk => ?_) ?_
 clear h
 have h := Wv
 clear Wv
 conv => arg 1; cbv
 refine av hΩ (dV hE) dh fun n1 hn2 => cv ?_
 refine av hΩ (dV hE) dN fun n3 FP => cv ?_
 refine av hΩ (ak hE) cZ fun n5 hn6 => cv ?_
 refine aj hΩ (cv ?_)
 refine av hΩ (dV hE) dK fun n7 hn8 => cv ?_
 refine av hΩ (ak hE) dn fun n9 aqP => cv ?_
 revert h; refine bU (fun Ba h => cv ?_) fun Ba h => cv ?_
 refine aj hΩ (cv ?_)
 exact fk h hk
 refine aj hΩ (cv ?_)
 exact fk h hk
 clear Wv
 try dsimp only at h
 conv => arg 1; cbv
 replace h := aW h
 obtain ⟨qy, A8, h⟩ := h
 refine aI hΩ ((fun (q : Bool) => (match q with | qy => ([(1, PV.bf (mI E aD aO cu cB cK bA bB bC bE dz cO dA dD dF dG bH bI bJ bK dH dI dJ au aA dh dM dN dP cZ dw eX eH dK dQ dn dO)), (2, vb false), (32, vb qy)], nO :: st))) qy) (fun k hk => ?_) ?_
 clear h
 have h := A8
 clear A8
 conv => arg 1; cbv
 revert h; refine bU (fun ES h => cv ?_) fun ES h => cv ?_
 exact fk h hk
 exact fk h hk
 clear A8
 try dsimp only at h
 conv => arg 1; cbv
 refine aC hΩ (cv ?_)
 exact sp h
set_option maxHeartbeats 4000000 in
theorem aiE {a0 : Value} {r : Bool} (h : P56 fu a0 = some r) {args : List PV} (ha : [aT E a0] = args) (st : St) :
 Sat (Ω.cf 56 args st) (fun q => q = (PV.d (.bool r), st)) := by
 subst ha
 rcases a0 with ⟨aD, aO, bN, ⟨aK, aS⟩, ⟨au, aA⟩, bO, bT, aQ⟩
 rw [aR hΩ (f := 56) (fn := Tryz.f56) (x := c56) rfl rfl akT rfl rfl rfl]
 unfold P56 at h
 try dsimp only at h
 conv => arg 1; cbv
 replace h := aW h
 obtain ⟨r1, hx2, h⟩ := h
 refine aH (aqS hΩ hE hx2) (cv ?_)
 exact sp h
set_option maxHeartbeats 4000000 in
theorem ark {a0 : Sl Value} {r : Bool} (h : P57 fu a0 = some r) {args : List PV} (ha : [PV.d (.sl (E.aN a0.l) (E.aU a0.x))] = args) (st : St) :
 Sat (Ω.cf 57 args st) (fun q => q = (PV.d (.bool r), st)) := by
 subst ha
 rcases a0 with ⟨ah, aY⟩
 rw [aR hΩ (f := 57) (fn := Tryz.f57) (x := c57) rfl rfl akU rfl rfl rfl]
 unfold P57 at h
 try dsimp only at h
 conv => arg 1; cbv
 replace h := aW h
 obtain ⟨q, ER, h⟩ := h
 refine dL hΩ (fun (a : Int) => (match a with | i1 => ([(0, PV.d (.sl (E.aN ah) (E.aU aY))), (2, vb false), (3, vi i1)], nO :: st))) (fun (q : Int ⊕ Int) => (match q with | .inl K4 => (.exit 0, [(0, PV.d (.sl (E.aN ah) (E.aU aY))), (2, vb false), (3, vi K4)], nO :: st) | .inr wX => (.ret, [(0, PV.d (.sl (E.aN ah) (E.aU aY))), (2, vb false), (3, vi wX)], nO :: st))) 0 ER ?_ ?_
 clear h ER
 rintro i1 q h
 unfold JL at h
 dsimp only at h
 conv => arg 1; cbv
 refine av hΩ (aF hE) ah fun n2 hn3 => cv ?_
 refine aC hΩ (cv ?_)
 revert h; refine bU (fun hb4 h => cv ?_) fun hb4 h => cv ?_
 refine sat_true (bg hΩ (aF hE) ah) (cv ?_)
 replace h := aW h
 obtain ⟨⟨qB, ad1, ad2, ⟨TT, TU⟩, ⟨TV, TW⟩, ad3, ad4, ad5⟩, hx6, h⟩ := h
 try dsimp only at h
 refine aM (bG hΩ (aF hE) hx6) (cv ?_)
 replace h := aW h
 obtain ⟨r7, AY, h⟩ := h
 refine aH (WR hΩ hE AY) (cv ?_)
 refine aC hΩ (cv ?_)
 revert h; refine bU (fun nC h => cv ?_) fun nC h => cv ?_
 obtain rfl := fV h
 subst_vars
 exact sR
 obtain rfl := fV h
 subst_vars
 exact s3
 obtain rfl := fV h
 subst_vars
 exact sL
 clear ER
 rcases q with K4 | wX
 dsimp only at h
 conv => arg 1; cbv
 exact sp h
 dsimp only at h
 conv => arg 1; cbv
 exact sp h
set_option maxHeartbeats 4000000 in
theorem arl {a0 : Sl Field} {r : Bool} (h : P58 fu a0 = some r) {args : List PV} (ha : [PV.d (.sl (E.aB a0.l) (E.aG a0.x))] = args) (st : St) :
 Sat (Ω.cf 58 args st) (fun q => q = (PV.d (.bool r), st)) := by
 subst ha
 rcases a0 with ⟨ah, aY⟩
 rw [aR hΩ (f := 58) (fn := Tryz.f58) (x := c58) rfl rfl akV rfl rfl rfl]
 unfold P58 at h
 try dsimp only at h
 conv => arg 1; cbv
 replace h := aW h
 obtain ⟨q, Bb, h⟩ := h
 refine dL hΩ (fun (a : Int) => (match a with | i1 => ([(0, PV.d (.sl (E.aB ah) (E.aG aY))), (2, vb false), (3, vi i1)], nO :: st))) (fun (q : Int ⊕ Int) => (match q with | .inl Uu => (.exit 0, [(0, PV.d (.sl (E.aB ah) (E.aG aY))), (2, vb false), (3, vi Uu)], nO :: st) | .inr o30 => (.ret, [(0, PV.d (.sl (E.aB ah) (E.aG aY))), (2, vb false), (3, vi o30)], nO :: st))) 0 Bb ?_ ?_
 clear h Bb
 rintro i1 q h
 unfold JM at h
 dsimp only at h
 conv => arg 1; cbv
 refine av hΩ (ak hE) ah fun n2 hn3 => cv ?_
 refine aC hΩ (cv ?_)
 revert h; refine bU (fun hb4 h => cv ?_) fun hb4 h => cv ?_
 refine aC hΩ (cv ?_)
 refine sat_true (bg hΩ (ak hE) ah) (cv ?_)
 replace h := aW h
 obtain ⟨⟨qB, ⟨xG, xH, xI, ⟨qc, qd⟩, ⟨qg, qh⟩, xJ, xK, xL⟩⟩, hx6, h⟩ := h
 try dsimp only at h
 refine aM (bG hΩ (ak hE) hx6) (cv ?_)
 replace h := aW h
 obtain ⟨r7, AY, h⟩ := h
 refine aH (aiC hΩ hE AY) (cv ?_)
 revert h; refine bU (fun nC h => cv ?_) fun nC h => cv ?_
 revert h; refine bU (fun jo h => cv ?_) fun jo h => cv ?_
 refine aj hΩ (cv ?_)
 refine sat_true (bg hΩ (ak hE) ah) (cv ?_)
 replace h := aW h
 obtain ⟨⟨qb, ⟨AL, AO, AP, ⟨uV, uW⟩, ⟨uX, uY⟩, AQ, AU, AV⟩⟩, AZ, h⟩ := h
 try dsimp only at h
 refine aM (bG hΩ (ak hE) AZ) (cv ?_)
 refine sat_true (bg hΩ (ak hE) ah) (cv ?_)
 replace h := aW h
 obtain ⟨⟨Dn, ⟨VP, VQ, VR, ⟨QN, QO⟩, ⟨QS, QT⟩, VT, VU, VW⟩⟩, EP, h⟩ := h
 try dsimp only at h
 refine aM (bG hΩ (ak hE) EP) (cv ?_)
 refine aj hΩ (cv ?_)
 replace h := aW h
 obtain ⟨i20, qo, h⟩ := h
 refine aI hΩ ((fun (q : Bool) => (match q with | i20 => ([(0, PV.d (.sl (E.aB ah) (E.aG aY))), (2, vb false), (3, vi i1), (43, vb i20)], nO :: st))) i20) (fun k hk => ?_) ?_
 clear h
 have h := qo
 clear qo
 conv => arg 1; cbv
 revert h; refine bU (fun Rp h => cv ?_) fun Rp h => cv ?_
 refine sat_true (bg hΩ (ak hE) ah) (cv ?_)
 replace h := aW h
 obtain ⟨⟨TY, ⟨JB, JC, JD, ⟨Dp, Dq⟩, ⟨Dr, Dt⟩, JE, JF, JG⟩⟩, WO, h⟩ := h
 try dsimp only at h
 refine aM (bG hΩ (ak hE) WO) (cv ?_)
 replace h := aW h
 obtain ⟨TR, EX, h⟩ := h
 refine aH (WR hΩ hE EX) (cv ?_)
 exact fk h hk
 exact fk h hk
 clear qo
 try dsimp only at h
 conv => arg 1; cbv
 refine aC hΩ (cv ?_)
 revert h; refine bU (fun EM h => cv ?_) fun EM h => cv ?_
 obtain rfl := fV h
 subst_vars
 exact sR
 obtain rfl := fV h
 subst_vars
 exact s3
 refine aj hΩ (cv ?_)
 refine aj hΩ (cv ?_)
 refine aC hΩ (cv ?_)
 refine sat_true (bg hΩ (ak hE) ah) (cv ?_)
 replace h := aW h
 obtain ⟨⟨mY, ⟨xQ, xR, xS, ⟨qN, qO⟩, ⟨qP, qQ⟩, xU, xV, xW⟩⟩, hx24, h⟩ := h
 try dsimp only at h
 refine aM (bG hΩ (ak hE) hx24) (cv ?_)
 replace h := aW h
 obtain ⟨Yl, rJ, h⟩ := h
 refine aH (WR hΩ hE rJ) (cv ?_)
 refine aC hΩ (cv ?_)
 revert h; refine bU (fun EW h => cv ?_) fun EW h => cv ?_
 obtain rfl := fV h
 subst_vars
 exact sR
 obtain rfl := fV h
 subst_vars
 exact s3
 refine aj hΩ (cv ?_)
 refine aj hΩ (cv ?_)
 refine aC hΩ (cv ?_)
 refine aC hΩ (cv ?_)
 obtain rfl := fV h
 subst_vars
 exact sR
 obtain rfl := fV h
 subst_vars
 exact sL
 clear Bb
 rcases q with Uu | o30
 dsimp only at h
 conv => arg 1; cbv
 exact sp h
 dsimp only at h
 conv => arg 1; cbv
 exact sp h
set_option maxHeartbeats 4000000 in
theorem as0 {a0 : Cell} {r : Bool} (h : P27 fu a0 = some r) {args : List PV} (ha : [jA E a0] = args) (st : St) :
 Sat (Ω.cf 27 args st) (fun q => q = (PV.d (.bool r), st)) := by
 subst ha
 rcases a0 with ⟨aD, aO, ⟨cu, cB, cK, ⟨bA, bB⟩, ⟨bC, bE⟩, dz, cO, dA⟩, ⟨dD, dF, dG, ⟨bH, bI⟩, ⟨bJ, bK⟩, dH, dI, dJ⟩, ⟨au, aA⟩, ⟨dh, dM⟩, ⟨dN, dP⟩, ⟨cZ, dw⟩, eX, eH, ⟨dK, dQ⟩, ⟨dn, dO⟩⟩
 rw [aR hΩ (f := 27) (fn := Tryz.f27) (x := c27) rfl rfl akH rfl rfl rfl]
 unfold P27 at h
 try dsimp only at h
 conv => arg 1; cbv
 replace h := aW h
 obtain ⟨q, KA, h⟩ := h
 refine aI hΩ ((fun (q : Unit ⊕ Bool) => (match q with | .inl _ => (.normal, [(1, PV.bf (mI E aD aO cu cB cK bA bB bC bE dz cO dA dD dF dG bH bI bJ bK dH dI dJ au aA dh dM dN dP cZ dw eX eH dK dQ dn dO)), (2, vb false), (4, PV.d (.int .u8 aD))], nO :: st) | .inr ahq => (.ret, [(1, PV.bf (mI E aD aO cu cB cK bA bB bC bE dz cO dA dD dF dG bH bI bJ bK dH dI dJ au aA dh dM dN dP cZ dw eX eH dK dQ dn dO)), (2, vb ahq), (4, PV.d (.int .u8 aD))], nO :: st))) q) (fun k hk => ?_) ?_
 clear h
 have h := KA
 clear KA
 conv => arg 1; cbv
 revert h; refine bU (fun hb1 h => cv ?_) fun hb1 h => cv ?_
 replace h := aW h
 obtain ⟨i7, Kt, h⟩ := h
 refine aI hΩ ((fun (q : Bool) => (match q with | i7 => ([(1, PV.bf (mI E aD aO cu cB cK bA bB bC bE dz cO dA dD dF dG bH bI bJ bK dH dI dJ au aA dh dM dN dP cZ dw eX eH dK dQ dn dO)), (2, vb false), (4, PV.d (.int .u8 aD)), (14, vb i7)], nO :: st))) i7) (fun k hk => ?_) ?_
 clear h
 have h := Kt
 clear Kt
 conv => arg 1; cbv
 replace h := aW h
 obtain ⟨r2, hx3, h⟩ := h
 refine aH (aiC hΩ hE hx3) (cv ?_)
 revert h; refine bU (fun hb4 h => cv ?_) fun hb4 h => cv ?_
 replace h := aW h
 obtain ⟨r5, hx6, h⟩ := h
 refine aH (WR hΩ hE hx6) (cv ?_)
 exact fk h hk
 exact fk h hk
 clear Kt
 try dsimp only at h
 conv => arg 1; cbv
 replace h := aW h
 obtain ⟨i11, qo, h⟩ := h
 refine aI hΩ ((fun (q : Bool) => (match q with | i11 => ([(1, PV.bf (mI E aD aO cu cB cK bA bB bC bE dz cO dA dD dF dG bH bI bJ bK dH dI dJ au aA dh dM dN dP cZ dw eX eH dK dQ dn dO)), (2, vb false), (4, PV.d (.int .u8 aD)), (19, vb i11)], nO :: st))) i11) (fun k hk => ?_) ?_
 clear h
 have h := qo
 clear qo
 conv => arg 1; cbv
 revert h; refine bU (fun vL h => cv ?_) fun vL h => cv ?_
 replace h := aW h
 obtain ⟨r9, EO, h⟩ := h
 refine aH (WR hΩ hE EO) (cv ?_)
 exact fk h hk
 exact fk h hk
 clear qo
 try dsimp only at h
 conv => arg 1; cbv
 replace h := aW h
 obtain ⟨TL, Ko, h⟩ := h
 refine aI hΩ ((fun (q : Bool) => (match q with | TL => ([(1, PV.bf (mI E aD aO cu cB cK bA bB bC bE dz cO dA dD dF dG bH bI bJ bK dH dI dJ au aA dh dM dN dP cZ dw eX eH dK dQ dn dO)), (2, vb false), (4, PV.d (.int .u8 aD)), (25, vb TL)], nO :: st))) TL) (fun k hk => ?_) ?_
 clear h
 have h := Ko
 clear Ko
 conv => arg 1; cbv
 revert h; refine bU (fun EU h => cv ?_) fun EU h => cv ?_
 refine av hΩ (aF hE) au fun n13 WJ => cv ?_
 exact fk h hk
 exact fk h hk
 clear Ko
 try dsimp only at h
 conv => arg 1; cbv
 replace h := aW h
 obtain ⟨i19, aoF, h⟩ := h
 refine aI hΩ ((fun (q : Bool) => (match q with | i19 => ([(1, PV.bf (mI E aD aO cu cB cK bA bB bC bE dz cO dA dD dF dG bH bI bJ bK dH dI dJ au aA dh dM dN dP cZ dw eX eH dK dQ dn dO)), (2, vb false), (4, PV.d (.int .u8 aD)), (29, vb i19)], nO :: st))) i19) (fun k hk => ?_) ?_
 clear h
 have h := aoF
 clear aoF
 conv => arg 1; cbv
 revert h; refine bU (fun qm h => cv ?_) fun qm h => cv ?_
 replace h := aW h
 obtain ⟨r17, u6, h⟩ := h
 refine aH (aoE hΩ hE u6) (cv ?_)
 exact fk h hk
 exact fk h hk
 clear aoF
 try dsimp only at h
 conv => arg 1; cbv
 refine aC hΩ (cv ?_)
 exact fk h hk
 replace h := aW h
 obtain ⟨q, KD, h⟩ := h
 refine aI hΩ ((fun (q : Unit ⊕ Bool) => (match q with | .inl _ => (.normal, [(1, PV.bf (mI E aD aO cu cB cK bA bB bC bE dz cO dA dD dF dG bH bI bJ bK dH dI dJ au aA dh dM dN dP cZ dw eX eH dK dQ dn dO)), (2, vb false), (4, PV.d (.int .u8 aD))], nO :: st) | .inr i109 => (.ret, [(1, PV.bf (mI E aD aO cu cB cK bA bB bC bE dz cO dA dD dF dG bH bI bJ bK dH dI dJ au aA dh dM dN dP cZ dw eX eH dK dQ dn dO)), (2, vb i109), (4, PV.d (.int .u8 aD))], nO :: st))) q) (fun k hk => ?_) ?_
 clear h
 have h := KD
 clear KD
 conv => arg 1; cbv
 revert h; refine bU (fun yt h => cv ?_) fun yt h => cv ?_
 replace h := aW h
 obtain ⟨i30, WL, h⟩ := h
 refine aI hΩ ((fun (q : Bool) => (match q with | i30 => ([(1, PV.bf (mI E aD aO cu cB cK bA bB bC bE dz cO dA dD dF dG bH bI bJ bK dH dI dJ au aA dh dM dN dP cZ dw eX eH dK dQ dn dO)), (2, vb false), (4, PV.d (.int .u8 aD)), (39, vb i30)], nO :: st))) i30) (fun k hk => ?_) ?_
 clear h
 have h := WL
 clear WL
 conv => arg 1; cbv
 replace h := aW h
 obtain ⟨Yl, rJ, h⟩ := h
 refine aH (aiC hΩ hE rJ) (cv ?_)
 revert h; refine bU (fun EW h => cv ?_) fun EW h => cv ?_
 replace h := aW h
 obtain ⟨r28, hx29, h⟩ := h
 refine aH (WR hΩ hE hx29) (cv ?_)
 exact fk h hk
 exact fk h hk
 clear WL
 try dsimp only at h
 conv => arg 1; cbv
 replace h := aW h
 obtain ⟨i34, WM, h⟩ := h
 refine aI hΩ ((fun (q : Bool) => (match q with | i34 => ([(1, PV.bf (mI E aD aO cu cB cK bA bB bC bE dz cO dA dD dF dG bH bI bJ bK dH dI dJ au aA dh dM dN dP cZ dw eX eH dK dQ dn dO)), (2, vb false), (4, PV.d (.int .u8 aD)), (44, vb i34)], nO :: st))) i34) (fun k hk => ?_) ?_
 clear h
 have h := WM
 clear WM
 conv => arg 1; cbv
 revert h; refine bU (fun afe h => cv ?_) fun afe h => cv ?_
 replace h := aW h
 obtain ⟨r32, aoC, h⟩ := h
 refine aH (aiE hΩ hE aoC) (cv ?_)
 exact fk h hk
 exact fk h hk
 clear WM
 try dsimp only at h
 conv => arg 1; cbv
 replace h := aW h
 obtain ⟨i38, aoG, h⟩ := h
 refine aI hΩ ((fun (q : Bool) => (match q with | i38 => ([(1, PV.bf (mI E aD aO cu cB cK bA bB bC bE dz cO dA dD dF dG bH bI bJ bK dH dI dJ au aA dh dM dN dP cZ dw eX eH dK dQ dn dO)), (2, vb false), (4, PV.d (.int .u8 aD)), (49, vb i38)], nO :: st))) i38) (fun k hk => ?_) ?_
 clear h
 have h := aoG
 clear aoG
 conv => arg 1; cbv
 revert h; refine bU (fun aob h => cv ?_) fun aob h => cv ?_
 replace h := aW h
 obtain ⟨r36, as1, h⟩ := h
 refine aH (ark hΩ hE as1) (cv ?_)
 exact fk h hk
 exact fk h hk
 clear aoG
 try dsimp only at h
 conv => arg 1; cbv
 replace h := aW h
 obtain ⟨i42, aoH, h⟩ := h
 refine aI hΩ ((fun (q : Bool) => (match q with | i42 => ([(1, PV.bf (mI E aD aO cu cB cK bA bB bC bE dz cO dA dD dF dG bH bI bJ bK dH dI dJ au aA dh dM dN dP cZ dw eX eH dK dQ dn dO)), (2, vb false), (4, PV.d (.int .u8 aD)), (53, vb i42)], nO :: st))) i42) (fun k hk => ?_) ?_
 clear h
 have h := aoH
 clear aoH
 conv => arg 1; cbv
 revert h; refine bU (fun Rn h => cv ?_) fun Rn h => cv ?_
 replace h := aW h
 obtain ⟨r40, as2, h⟩ := h
 refine aH (aoE hΩ hE as2) (cv ?_)
 exact fk h hk
 exact fk h hk
 clear aoH
 try dsimp only at h
 conv => arg 1; cbv
 refine aC hΩ (cv ?_)
 exact fk h hk
 replace h := aW h
 obtain ⟨q, KE, h⟩ := h
 refine aI hΩ ((fun (q : Unit ⊕ Bool) => (match q with | .inl _ => (.normal, [(1, PV.bf (mI E aD aO cu cB cK bA bB bC bE dz cO dA dD dF dG bH bI bJ bK dH dI dJ au aA dh dM dN dP cZ dw eX eH dK dQ dn dO)), (2, vb false), (4, PV.d (.int .u8 aD))], nO :: st) | .inr i107 => (.ret, [(1, PV.bf (mI E aD aO cu cB cK bA bB bC bE dz cO dA dD dF dG bH bI bJ bK dH dI dJ au aA dh dM dN dP cZ dw eX eH dK dQ dn dO)), (2, vb i107), (4, PV.d (.int .u8 aD))], nO :: st))) q) (fun k hk => ?_) ?_
 clear h
 have h := KE
 clear KE
 conv => arg 1; cbv
 revert h; refine bU (fun afw h => cv ?_) fun afw h => cv ?_
 replace h := aW h
 obtain ⟨i53, Wy, h⟩ := h
 refine aI hΩ ((fun (q : Bool) => (match q with | i53 => ([(1, PV.bf (mI E aD aO cu cB cK bA bB bC bE dz cO dA dD dF dG bH bI bJ bK dH dI dJ au aA dh dM dN dP cZ dw eX eH dK dQ dn dO)), (2, vb false), (4, PV.d (.int .u8 aD)), (63, vb i53)], nO :: st))) i53) (fun k hk => ?_) ?_
 clear h
 have h := Wy
 clear Wy
 conv => arg 1; cbv
 replace h := aW h
 obtain ⟨r48, afx, h⟩ := h
 refine aH (aiC hΩ hE afx) (cv ?_)
 revert h; refine bU (fun anC h => cv ?_) fun anC h => cv ?_
 replace h := aW h
 obtain ⟨r51, as3, h⟩ := h
 refine aH (WR hΩ hE as3) (cv ?_)
 exact fk h hk
 exact fk h hk
 clear Wy
 try dsimp only at h
 conv => arg 1; cbv
 replace h := aW h
 obtain ⟨i57, Wz, h⟩ := h
 refine aI hΩ ((fun (q : Bool) => (match q with | i57 => ([(1, PV.bf (mI E aD aO cu cB cK bA bB bC bE dz cO dA dD dF dG bH bI bJ bK dH dI dJ au aA dh dM dN dP cZ dw eX eH dK dQ dn dO)), (2, vb false), (4, PV.d (.int .u8 aD)), (68, vb i57)], nO :: st))) i57) (fun k hk => ?_) ?_
 clear h
 have h := Wz
 clear Wz
 conv => arg 1; cbv
 revert h; refine bU (fun Km h => cv ?_) fun Km h => cv ?_
 replace h := aW h
 obtain ⟨r55, as4, h⟩ := h
 refine aH (aiE hΩ hE as4) (cv ?_)
 exact fk h hk
 exact fk h hk
 clear Wz
 try dsimp only at h
 conv => arg 1; cbv
 replace h := aW h
 obtain ⟨i61, WA, h⟩ := h
 refine aI hΩ ((fun (q : Bool) => (match q with | i61 => ([(1, PV.bf (mI E aD aO cu cB cK bA bB bC bE dz cO dA dD dF dG bH bI bJ bK dH dI dJ au aA dh dM dN dP cZ dw eX eH dK dQ dn dO)), (2, vb false), (4, PV.d (.int .u8 aD)), (74, vb i61)], nO :: st))) i61) (fun k hk => ?_) ?_
 clear h
 have h := WA
 clear WA
 conv => arg 1; cbv
 revert h; refine bU (fun as5 h => cv ?_) fun as5 h => cv ?_
 refine av hΩ (aF hE) au fun n59 atM => cv ?_
 exact fk h hk
 exact fk h hk
 clear WA
 try dsimp only at h
 conv => arg 1; cbv
 replace h := aW h
 obtain ⟨i65, WB, h⟩ := h
 refine aI hΩ ((fun (q : Bool) => (match q with | i65 => ([(1, PV.bf (mI E aD aO cu cB cK bA bB bC bE dz cO dA dD dF dG bH bI bJ bK dH dI dJ au aA dh dM dN dP cZ dw eX eH dK dQ dn dO)), (2, vb false), (4, PV.d (.int .u8 aD)), (78, vb i65)], nO :: st))) i65) (fun k hk => ?_) ?_
 clear h
 have h := WB
 clear WB
 conv => arg 1; cbv
 revert h; refine bU (fun as6 h => cv ?_) fun as6 h => cv ?_
 replace h := aW h
 obtain ⟨r63, an7, h⟩ := h
 refine aH (aoE hΩ hE an7) (cv ?_)
 exact fk h hk
 exact fk h hk
 clear WB
 try dsimp only at h
 conv => arg 1; cbv
 refine aC hΩ (cv ?_)
 exact fk h hk
 replace h := aW h
 obtain ⟨i71, KF, h⟩ := h
 refine aI hΩ ((fun (q : Bool) => (match q with | i71 => (.normal, [(1, PV.bf (mI E aD aO cu cB cK bA bB bC bE dz cO dA dD dF dG bH bI bJ bK dH dI dJ au aA dh dM dN dP cZ dw eX eH dK dQ dn dO)), (2, vb false), (4, PV.d (.int .u8 aD)), (79, vb i71)], nO :: st))) i71) (fun k hk => ?_) ?_
 clear h
 have h := KF
 clear KF
 conv => arg 1; cbv
 revert h; refine bU (fun as7 h => cv ?_) fun as7 h => cv ?_
 exact fk h hk
 exact fk h hk
 clear KF
 try dsimp only at h
 conv => arg 1; cbv
 refine aC hΩ (cv ?_)
 revert h; refine bU (fun aoo h => cv ?_) fun aoo h => cv ?_
 replace h := aW h
 obtain ⟨i76, afy, h⟩ := h
 refine aI hΩ ((fun (q : Bool) => (match q with | i76 => ([(1, PV.bf (mI E aD aO cu cB cK bA bB bC bE dz cO dA dD dF dG bH bI bJ bK dH dI dJ au aA dh dM dN dP cZ dw eX eH dK dQ dn dO)), (2, vb false), (4, PV.d (.int .u8 aD)), (79, vb true), (89, vb i76)], nO :: st))) i76) (fun k hk => ?_) ?_
 clear h
 have h := afy
 clear afy
 conv => arg 1; cbv
 revert h; refine bU (fun as8 h => cv ?_) fun as8 h => cv ?_
 replace h := aW h
 obtain ⟨r74, as9, h⟩ := h
 refine aH (aiE hΩ hE as9) (cv ?_)
 exact fk h hk
 exact fk h hk
 clear afy
 try dsimp only at h
 conv => arg 1; cbv
 replace h := aW h
 obtain ⟨i80, afz, h⟩ := h
 refine aI hΩ ((fun (q : Bool) => (match q with | i80 => ([(1, PV.bf (mI E aD aO cu cB cK bA bB bC bE dz cO dA dD dF dG bH bI bJ bK dH dI dJ au aA dh dM dN dP cZ dw eX eH dK dQ dn dO)), (2, vb false), (4, PV.d (.int .u8 aD)), (79, vb true), (94, vb i80)], nO :: st))) i80) (fun k hk => ?_) ?_
 clear h
 have h := afz
 clear afz
 conv => arg 1; cbv
 revert h; refine bU (fun ata h => cv ?_) fun ata h => cv ?_
 replace h := aW h
 obtain ⟨r78, atb, h⟩ := h
 refine aH (aiE hΩ hE atb) (cv ?_)
 exact fk h hk
 exact fk h hk
 clear afz
 try dsimp only at h
 conv => arg 1; cbv
 replace h := aW h
 obtain ⟨i84, afA, h⟩ := h
 refine aI hΩ ((fun (q : Bool) => (match q with | i84 => ([(1, PV.bf (mI E aD aO cu cB cK bA bB bC bE dz cO dA dD dF dG bH bI bJ bK dH dI dJ au aA dh dM dN dP cZ dw eX eH dK dQ dn dO)), (2, vb false), (4, PV.d (.int .u8 aD)), (79, vb true), (99, vb i84)], nO :: st))) i84) (fun k hk => ?_) ?_
 clear h
 have h := afA
 clear afA
 conv => arg 1; cbv
 revert h; refine bU (fun aop h => cv ?_) fun aop h => cv ?_
 replace h := aW h
 obtain ⟨r82, aoq, h⟩ := h
 refine aH (ark hΩ hE aoq) (cv ?_)
 exact fk h hk
 exact fk h hk
 clear afA
 try dsimp only at h
 conv => arg 1; cbv
 replace h := aW h
 obtain ⟨i88, afB, h⟩ := h
 refine aI hΩ ((fun (q : Bool) => (match q with | i88 => ([(1, PV.bf (mI E aD aO cu cB cK bA bB bC bE dz cO dA dD dF dG bH bI bJ bK dH dI dJ au aA dh dM dN dP cZ dw eX eH dK dQ dn dO)), (2, vb false), (4, PV.d (.int .u8 aD)), (79, vb true), (104, vb i88)], nO :: st))) i88) (fun k hk => ?_) ?_
 clear h
 have h := afB
 clear afB
 conv => arg 1; cbv
 revert h; refine bU (fun aor h => cv ?_) fun aor h => cv ?_
 replace h := aW h
 obtain ⟨r86, aos, h⟩ := h
 refine aH (arl hΩ hE aos) (cv ?_)
 exact fk h hk
 exact fk h hk
 clear afB
 try dsimp only at h
 conv => arg 1; cbv
 replace h := aW h
 obtain ⟨i92, afC, h⟩ := h
 refine aI hΩ ((fun (q : Bool) => (match q with | i92 => ([(1, PV.bf (mI E aD aO cu cB cK bA bB bC bE dz cO dA dD dF dG bH bI bJ bK dH dI dJ au aA dh dM dN dP cZ dw eX eH dK dQ dn dO)), (2, vb false), (4, PV.d (.int .u8 aD)), (79, vb true), (109, vb i92)], nO :: st))) i92) (fun k hk => ?_) ?_
 clear h
 have h := afC
 clear afC
 conv => arg 1; cbv
 revert h; refine bU (fun aot h => cv ?_) fun aot h => cv ?_
 replace h := aW h
 obtain ⟨r90, hx91, h⟩ := h
 refine aH (arl hΩ hE hx91) (cv ?_)
 exact fk h hk
 exact fk h hk
 clear afC
 try dsimp only at h
 conv => arg 1; cbv
 replace h := aW h
 obtain ⟨i99, afD, h⟩ := h
 refine aI hΩ ((fun (q : Bool) => (match q with | i99 => ([(1, PV.bf (mI E aD aO cu cB cK bA bB bC bE dz cO dA dD dF dG bH bI bJ bK dH dI dJ au aA dh dM dN dP cZ dw eX eH dK dQ dn dO)), (2, vb false), (4, PV.d (.int .u8 aD)), (79, vb true), (123, vb i99)], nO :: st))) i99) (fun k hk => ?_) ?_
 clear h
 have h := afD
 clear afD
 conv => arg 1; cbv
 revert h; refine bU (fun atc h => cv ?_) fun atc h => cv ?_
 revert h; refine bU (fun atd h => cv ?_) fun atd h => cv ?_
 refine av hΩ (dV hE) dK fun n95 atN => cv ?_
 refine av hΩ (ak hE) dn fun n97 atO => cv ?_
 refine aj hΩ (cv ?_)
 exact fk h hk
 refine aj hΩ (cv ?_)
 exact fk h hk
 refine aj hΩ (cv ?_)
 exact fk h hk
 clear afD
 try dsimp only at h
 conv => arg 1; cbv
 refine aC hΩ (cv ?_)
 exact fk h hk
 exact fk h hk
 clear KE
 rcases q with _ | i107
 try dsimp only at h
 conv => arg 1; cbv
 exact fk h hk
 try dsimp only at h
 conv => arg 1; cbv
 exact fk h hk
 clear KD
 rcases q with _ | i109
 try dsimp only at h
 conv => arg 1; cbv
 exact fk h hk
 try dsimp only at h
 conv => arg 1; cbv
 exact fk h hk
 clear KA
 rcases q with _ | ahq
 try dsimp only at h
 conv => arg 1; cbv
 exact sp h
 try dsimp only at h
 conv => arg 1; cbv
 exact sp h
set_option maxHeartbeats 4000000 in
theorem ate {a0 : Sl Cell} {r : Bool} (h : P12 fu a0 = some r) {args : List PV} (ha : [PV.d (.sl (E.bM a0.l) (E.bX a0.x))] = args) (st : St) :
 Sat (Ω.cf 12 args st) (fun q => q = (PV.d (.bool r), st)) := by
 subst ha
 rcases a0 with ⟨ah, aY⟩
 rw [aR hΩ (f := 12) (fn := Tryz.f12) (x := c12) rfl rfl akC rfl rfl rfl]
 unfold P12 at h
 try dsimp only at h
 conv => arg 1; cbv
 refine av hΩ (aV hE) ah fun n1 hn2 => cv ?_
 refine aC hΩ (cv ?_)
 revert h; refine bU (fun hb3 h => cv ?_) fun hb3 h => cv ?_
 exact sp h
 replace h := aW h
 obtain ⟨q, Wp, h⟩ := h
 refine dL hΩ (fun (a : Int) => (match a with | i4 => ([(0, PV.d (.sl (E.bM ah) (E.bX aY))), (2, vb false), (3, vi i4)], nO :: st))) (fun (q : Int ⊕ Int) => (match q with | .inl sI => (.exit 0, [(0, PV.d (.sl (E.bM ah) (E.bX aY))), (2, vb false), (3, vi sI)], nO :: st) | .inr Vu => (.ret, [(0, PV.d (.sl (E.bM ah) (E.bX aY))), (2, vb false), (3, vi Vu)], nO :: st))) 0 Wp ?_ ?_
 clear h Wp
 rintro i4 q h
 unfold JN at h
 dsimp only at h
 conv => arg 1; cbv
 refine av hΩ (aV hE) ah fun n5 hn6 => cv ?_
 refine aC hΩ (cv ?_)
 revert h; refine bU (fun AX h => cv ?_) fun AX h => cv ?_
 replace h := aW h
 obtain ⟨i20, qo, h⟩ := h
 refine aI hΩ ((fun (q : Bool) => (match q with | i20 => ([(0, PV.d (.sl (E.bM ah) (E.bX aY))), (2, vb false), (3, vi i4), (37, vb i20)], nO :: st))) i20) (fun k hk => ?_) ?_
 clear h
 have h := qo
 clear qo
 conv => arg 1; cbv
 refine sat_true (bg hΩ (aV hE) ah) (cv ?_)
 replace h := aW h
 obtain ⟨⟨F8, K5, ⟨ML, MN, MO, ⟨EA, EB⟩, ⟨EC, ED⟩, MP, MQ, MR⟩, ⟨MS, MU, MV, ⟨EF, EG⟩, ⟨EH, EI⟩, MW, MX, MZ⟩, ⟨Dh, Di⟩, ⟨M0, M4⟩, ⟨M5, M6⟩, ⟨M7, M8⟩, aac, aad, ⟨M9, Na⟩, ⟨Nb, Nc⟩⟩, Uh, h⟩ := h
 try dsimp only at h
 refine aM (bG hΩ (aV hE) Uh) (cv ?_)
 replace h := aW h
 obtain ⟨r10, mP, h⟩ := h
 refine aH (as0 hΩ hE mP) (cv ?_)
 revert h; refine bU (fun EU h => cv ?_) fun EU h => cv ?_
 refine sat_true (bg hΩ (aV hE) ah) (cv ?_)
 replace h := aW h
 obtain ⟨⟨Dn, aqf, ⟨amn, amo, amq, ⟨ahr, ahs⟩, ⟨aht, ahu⟩, amr, ams, amt⟩, ⟨amu, amv, amw, ⟨ahv, ahw⟩, ⟨ahx, ahy⟩, amx, amy, amA⟩, ⟨amB, amC⟩, ⟨amD, amE⟩, ⟨amF, amG⟩, ⟨amH, amI⟩, aqg, aqh, ⟨amJ, amK⟩, ⟨amL, amM⟩⟩, EP, h⟩ := h
 try dsimp only at h
 refine aM (bG hΩ (aV hE) EP) (cv ?_)
 refine aj hΩ (cv ?_)
 revert h; refine bU (fun Rp h => cv ?_) fun Rp h => cv ?_
 refine sat_true (bg hΩ (aV hE) ah) (cv ?_)
 replace h := aW h
 obtain ⟨⟨TY, aj0, ⟨amN, amO, amP, ⟨ahz, ahA⟩, ⟨ahB, ahC⟩, amQ, amR, amS⟩, ⟨amT, amU, amV, ⟨ahD, ahE⟩, ⟨ahF, ahG⟩, amW, amX, amY⟩, ⟨amZ, am0⟩, ⟨am1, am2⟩, ⟨am3, am4⟩, ⟨am5, am6⟩, aqi, aqj, ⟨am7, am8⟩, ⟨am9, ana⟩⟩, WO, h⟩ := h
 try dsimp only at h
 refine aM (bG hΩ (aV hE) WO) (cv ?_)
 replace h := aW h
 obtain ⟨TR, EX, h⟩ := h
 refine aH (aqH hΩ hE EX) (cv ?_)
 refine aj hΩ (cv ?_)
 exact fk h hk
 refine aj hΩ (cv ?_)
 exact fk h hk
 refine aj hΩ (cv ?_)
 refine aj hΩ (cv ?_)
 exact fk h hk
 clear qo
 try dsimp only at h
 conv => arg 1; cbv
 refine aC hΩ (cv ?_)
 revert h; refine bU (fun EM h => cv ?_) fun EM h => cv ?_
 obtain rfl := fV h
 subst_vars
 exact sR
 obtain rfl := fV h
 subst_vars
 exact s3
 obtain rfl := fV h
 subst_vars
 exact sL
 clear Wp
 rcases q with sI | Vu
 dsimp only at h
 conv => arg 1; cbv
 exact sp h
 dsimp only at h
 conv => arg 1; cbv
 exact sp h
def H13 (Ω : Om) (E : Enc) (K7 : Value → Value → Option (Bool)) : Prop := ∀ {a0 : Value} {a1 : Value} {r : Bool}, K7 a0 a1 = some r → ∀ {args : List PV}, [aT E a0, aT E a1] = args → ∀ (st : St), Sat (Ω.cf 13 args st) (fun q => q = (PV.d (.bool r), st))
def H28 (Ω : Om) (E : Enc) (p28 : (Sl Value) → (Sl Value) → Option (Bool)) : Prop := ∀ {a0 : Sl Value} {a1 : Sl Value} {r : Bool}, p28 a0 a1 = some r → ∀ {args : List PV}, [PV.d (.sl (E.aN a0.l) (E.aU a0.x)), PV.d (.sl (E.aN a1.l) (E.aU a1.x))] = args → ∀ (st : St), Sat (Ω.cf 28 args st) (fun q => q = (PV.d (.bool r), st))
def H29 (Ω : Om) (E : Enc) (p29 : (Sl Field) → (Sl Field) → Option (Bool)) : Prop := ∀ {a0 : Sl Field} {a1 : Sl Field} {r : Bool}, p29 a0 a1 = some r → ∀ {args : List PV}, [PV.d (.sl (E.aB a0.l) (E.aG a0.x)), PV.d (.sl (E.aB a1.l) (E.aG a1.x))] = args → ∀ (st : St), Sat (Ω.cf 29 args st) (fun q => q = (PV.d (.bool r), st))
def H59 (Ω : Om) (E : Enc) (p59 : Field → Field → Option (Bool)) : Prop := ∀ {a0 : Field} {a1 : Field} {r : Bool}, p59 a0 a1 = some r → ∀ {args : List PV}, [eU E a0, eU E a1] = args → ∀ (st : St), Sat (Ω.cf 59 args st) (fun q => q = (PV.d (.bool r), st))
set_option maxHeartbeats 4000000 in
theorem arn {K7 : Value → Value → Option (Bool)} (afE : H13 Ω E K7) {p28 : (Sl Value) → (Sl Value) → Option (Bool)} (aiF : H28 Ω E p28) {p29 : (Sl Field) → (Sl Field) → Option (Bool)} (aiG : H29 Ω E p29) {p59 : Field → Field → Option (Bool)} (aiH : H59 Ω E p59) {a0 : Value} {a1 : Value} {r : Bool} (h : ahH fu K7 p28 p29 p59 a0 a1 = some r) {args : List PV} (ha : [aT E a0, aT E a1] = args) (st : St) :
 Sat (Ω.cf 13 args st) (fun q => q = (PV.d (.bool r), st)) := by
 subst ha
 rcases a0 with ⟨aD, aO, bN, ⟨aK, aS⟩, ⟨au, aA⟩, bO, bT, aQ⟩
 rcases a1 with ⟨iL, jT, oQ, ⟨jh, ku⟩, ⟨iU, iV⟩, su, kT, sw⟩
 rw [aR hΩ (f := 13) (fn := Tryz.f13) (x := c13) rfl rfl akD rfl rfl rfl]
 unfold ahH at h
 try dsimp only at h
 conv => arg 1; cbv
 replace h := aW h
 obtain ⟨i12, vg, h⟩ := h
 refine aI hΩ ((fun (q : Bool) => (match q with | i12 => ([(2, PV.bf (iY E aD aO bN aK aS au aA bO bT aQ)), (3, PV.bf (iY E iL jT oQ jh ku iU iV su kT sw)), (4, vb i12)], nO :: st))) i12) (fun k hk => ?_) ?_
 clear h
 have h := vg
 clear vg
 conv => arg 1; cbv
 revert h; refine bU (fun hb1 h => cv ?_) fun hb1 h => cv ?_
 refine aj hΩ (cv ?_)
 revert h; refine bU (fun hb2 h => cv ?_) fun hb2 h => cv ?_
 revert h; refine bU (fun hb3 h => cv ?_) fun hb3 h => cv ?_
 refine aj hΩ (cv ?_)
 replace h := aW h
 obtain ⟨r4, hx5, h⟩ := h
 refine aH (aiF hx5) (cv ?_)
 revert h; refine bU (fun hb6 h => cv ?_) fun hb6 h => cv ?_
 replace h := aW h
 obtain ⟨r7, AY, h⟩ := h
 refine aH (aiG AY) (cv ?_)
 revert h; refine bU (fun nC h => cv ?_) fun nC h => cv ?_
 refine aj hΩ (cv ?_)
 revert h; refine bU (fun jo h => cv ?_) fun jo h => cv ?_
 refine aj hΩ (cv ?_)
 revert h; refine bU (fun Ba h => cv ?_) fun Ba h => cv ?_
 exact fk h hk
 exact fk h hk
 refine aj hΩ (cv ?_)
 exact fk h hk
 refine aj hΩ (cv ?_)
 refine aj hΩ (cv ?_)
 exact fk h hk
 refine aj hΩ (cv ?_)
 refine aj hΩ (cv ?_)
 exact fk h hk
 refine aj hΩ (cv ?_)
 refine aj hΩ (cv ?_)
 refine aj hΩ (cv ?_)
 exact fk h hk
 refine aj hΩ (cv ?_)
 refine aj hΩ (cv ?_)
 refine aj hΩ (cv ?_)
 exact fk h hk
 refine aj hΩ (cv ?_)
 refine aj hΩ (cv ?_)
 refine aj hΩ (cv ?_)
 refine aj hΩ (cv ?_)
 exact fk h hk
 clear vg
 try dsimp only at h
 conv => arg 1; cbv
 exact sp h
set_option maxHeartbeats 4000000 in
theorem aro {K7 : Value → Value → Option (Bool)} (afE : H13 Ω E K7) {p28 : (Sl Value) → (Sl Value) → Option (Bool)} (aiF : H28 Ω E p28) {p29 : (Sl Field) → (Sl Field) → Option (Bool)} (aiG : H29 Ω E p29) {p59 : Field → Field → Option (Bool)} (aiH : H59 Ω E p59) {a0 : Sl Value} {a1 : Sl Value} {r : Bool} (h : ahI fu K7 p28 p29 p59 a0 a1 = some r) {args : List PV} (ha : [PV.d (.sl (E.aN a0.l) (E.aU a0.x)), PV.d (.sl (E.aN a1.l) (E.aU a1.x))] = args) (st : St) :
 Sat (Ω.cf 28 args st) (fun q => q = (PV.d (.bool r), st)) := by
 subst ha
 rcases a0 with ⟨ah, aY⟩
 rcases a1 with ⟨aL, dS⟩
 rw [aR hΩ (f := 28) (fn := Tryz.f28) (x := c28) rfl rfl akI rfl rfl rfl]
 unfold ahI at h
 try dsimp only at h
 conv => arg 1; cbv
 refine av hΩ (aF hE) ah fun n1 hn2 => cv ?_
 refine av hΩ (aF hE) aL fun n3 FP => cv ?_
 refine aC hΩ (cv ?_)
 revert h; refine bU (fun hb5 h => cv ?_) fun hb5 h => cv ?_
 exact sp h
 replace h := aW h
 obtain ⟨q, l7, h⟩ := h
 refine dL hΩ (fun (a : Int) => (match a with | i6 => ([(0, PV.d (.sl (E.aN ah) (E.aU aY))), (1, PV.d (.sl (E.aN aL) (E.aU dS))), (4, vb false), (5, vi i6)], nO :: st))) (fun (q : Int ⊕ Int) => (match q with | .inl rA => (.exit 0, [(0, PV.d (.sl (E.aN ah) (E.aU aY))), (1, PV.d (.sl (E.aN aL) (E.aU dS))), (4, vb false), (5, vi rA)], nO :: st) | .inr xu => (.ret, [(0, PV.d (.sl (E.aN ah) (E.aU aY))), (1, PV.d (.sl (E.aN aL) (E.aU dS))), (4, vb false), (5, vi xu)], nO :: st))) 0 l7 ?_ ?_
 clear h l7
 rintro i6 q h
 unfold QU at h
 dsimp only at h
 conv => arg 1; cbv
 refine av hΩ (aF hE) ah fun n7 hn8 => cv ?_
 refine aC hΩ (cv ?_)
 revert h; refine bU (fun nC h => cv ?_) fun nC h => cv ?_
 refine sat_true (bg hΩ (aF hE) ah) (cv ?_)
 replace h := aW h
 obtain ⟨⟨jv, zh, TH, ⟨Js, Jt⟩, ⟨rC, rD⟩, TI, TJ, TK⟩, mP, h⟩ := h
 try dsimp only at h
 refine aM (bG hΩ (aF hE) mP) (cv ?_)
 refine sat_true (bg hΩ (aF hE) aL) (cv ?_)
 replace h := aW h
 obtain ⟨⟨iX, oz, wY, ⟨pR, pU⟩, ⟨kR, kS⟩, wZ, w9, xq⟩, mQ, h⟩ := h
 try dsimp only at h
 refine aM (bG hΩ (aF hE) mQ) (cv ?_)
 replace h := aW h
 obtain ⟨FK, yA, h⟩ := h
 refine aH (afE yA) (cv ?_)
 refine aC hΩ (cv ?_)
 revert h; refine bU (fun qm h => cv ?_) fun qm h => cv ?_
 obtain rfl := fV h
 subst_vars
 exact sR
 obtain rfl := fV h
 subst_vars
 exact s3
 obtain rfl := fV h
 subst_vars
 exact sL
 clear l7
 rcases q with rA | xu
 dsimp only at h
 conv => arg 1; cbv
 exact sp h
 dsimp only at h
 conv => arg 1; cbv
 exact sp h
end Go.Proofs.YtipkggkbldgmjaaGreat
