/-
  NARROWER THAN 'FOR EVERY INPUT', by the rows' own cells (each row's printed sentence says how): NormAlike: loops · MatchOnce: loops · MatchPairs: loops · ValueSames: loops.
  DERIVED. THE GIVEN ROWS OF THIS SEAT. 14 by the template 'for every input the law returns true; each argument reads behind the call as it read before'; 0 by the template 'total and deterministic' (their statements: YtamllgdaepjcfaaTotals.lean).
  GIVEN WITH THE SEED: the statements are not yours to turn. If you find one false, say at which input.
  Laid BY PROGRAM, IN A SANDBOX (cutbox-rows.mjs): the forced cells as the released guide's own fill.sh prints them over the translation 9b3747f017c47a27… (all of the seat's roots in one cut). By AI agents, Wed Nov 11 2026. No macro, syntax, notation, axiom, sorry.
-/
import Derived.Test.YtamllgdaepjcfaaChecked
import GoSem.Claim
import GoSem.ClaimJoined
import GoSem.ClaimMapViews
import Derived.JoinedTies
import Derived.KernelRfl
namespace Go.Proofs.Ytamllgdaepjcfaa
/- THE CELL 'sum', in the pinned program and in every row, IS THE sha256 OF THE DUMP (.gsa) THAT YtamllgdaepjcfaaProg.lean LOADS. Nothing in Lean hashes anything: it is a label: what it is worth is what the hold of that sum in a sandbox is worth. -/
noncomputable def Try.pinned : Pinned := { name := "ytamllgdaepjcfaa", sum := "9b3747f017c47a274c0ae57b8f949103481e591822e50821c5744ce88a5acf80", checked := Try.checked }
namespace Rows
def none {H : Type} : Left H := { results := [], args := [] }

/-- 'tapestrylaw07.NormAlike': WHATEVER THE INPUT: true; the input reads as it did. -/
def normAlikeSpec : ChangeSpec := { name := "normAlike", fn := fun _ => fun
  | [d1, d2] => { results := [.lit (.bool true)], args := [d1, d2] }
  | _ => none }
def normAlikeRow : OpenClaim := { program := "ytamllgdaepjcfaa", sum := "9b3747f017c47a274c0ae57b8f949103481e591822e50821c5744ce88a5acf80", func := "tapestry/tapestrylaw07.NormAlike", spec := "normAlike", loops := true, plainKeys := false, apart := false }
def NormAlikeSaid : Prop := normAlikeRow.holds Try.pinned (OpenSpec.ofChange normAlikeSpec)

/-- ITS FALSE NEIGHBOUR: 'it returns false'. Refute it at one input. -/
def normAlikeWrong : ChangeSpec := { name := "normAlike", fn := fun _ => fun
  | [d1, d2] => { results := [.lit (.bool false)], args := [d1, d2] }
  | _ => none }
def NormAlikeWrongFalsely : Prop := normAlikeRow.holds Try.pinned (OpenSpec.ofChange normAlikeWrong)

/-- 'tapestrylaw09.PlaceMoves': WHATEVER THE INPUT: true; the input reads as it did. -/
def placeMovesSpec : ChangeSpec := { name := "placeMoves", fn := fun _ => fun
  | [d] => { results := [.lit (.bool true)], args := [d] }
  | _ => none }
def placeMovesRow : OpenClaim := { program := "ytamllgdaepjcfaa", sum := "9b3747f017c47a274c0ae57b8f949103481e591822e50821c5744ce88a5acf80", func := "tapestry/tapestrylaw09.PlaceMoves", spec := "placeMoves", plainKeys := false, apart := false }
def PlaceMovesSaid : Prop := placeMovesRow.holds Try.pinned (OpenSpec.ofChange placeMovesSpec)

/-- ITS FALSE NEIGHBOUR: 'it returns false'. Refute it at one input. -/
def placeMovesWrong : ChangeSpec := { name := "placeMoves", fn := fun _ => fun
  | [d] => { results := [.lit (.bool false)], args := [d] }
  | _ => none }
def PlaceMovesWrongFalsely : Prop := placeMovesRow.holds Try.pinned (OpenSpec.ofChange placeMovesWrong)

/-- 'tapestrylaw08.MatchOnce': WHATEVER THE INPUT: true; the input reads as it did. -/
def matchOnceSpec : ChangeSpec := { name := "matchOnce", fn := fun _ => fun
  | [d1, d2] => { results := [.lit (.bool true)], args := [d1, d2] }
  | _ => none }
def matchOnceRow : OpenClaim := { program := "ytamllgdaepjcfaa", sum := "9b3747f017c47a274c0ae57b8f949103481e591822e50821c5744ce88a5acf80", func := "tapestry/tapestrylaw08.MatchOnce", spec := "matchOnce", recurses := true, loops := true, plainKeys := false, apart := false }
def MatchOnceSaid : Prop := matchOnceRow.holds Try.pinned (OpenSpec.ofChange matchOnceSpec)

/-- ITS FALSE NEIGHBOUR: 'it returns false'. Refute it at one input. -/
def matchOnceWrong : ChangeSpec := { name := "matchOnce", fn := fun _ => fun
  | [d1, d2] => { results := [.lit (.bool false)], args := [d1, d2] }
  | _ => none }
def MatchOnceWrongFalsely : Prop := matchOnceRow.holds Try.pinned (OpenSpec.ofChange matchOnceWrong)

/-- 'tapestrylaw08.MatchPairs': WHATEVER THE INPUT: true; the input reads as it did. -/
def matchPairsSpec : ChangeSpec := { name := "matchPairs", fn := fun _ => fun
  | [d1, d2] => { results := [.lit (.bool true)], args := [d1, d2] }
  | _ => none }
def matchPairsRow : OpenClaim := { program := "ytamllgdaepjcfaa", sum := "9b3747f017c47a274c0ae57b8f949103481e591822e50821c5744ce88a5acf80", func := "tapestry/tapestrylaw08.MatchPairs", spec := "matchPairs", recurses := true, loops := true, plainKeys := false, apart := false }
def MatchPairsSaid : Prop := matchPairsRow.holds Try.pinned (OpenSpec.ofChange matchPairsSpec)

/-- ITS FALSE NEIGHBOUR: 'it returns false'. Refute it at one input. -/
def matchPairsWrong : ChangeSpec := { name := "matchPairs", fn := fun _ => fun
  | [d1, d2] => { results := [.lit (.bool false)], args := [d1, d2] }
  | _ => none }
def MatchPairsWrongFalsely : Prop := matchPairsRow.holds Try.pinned (OpenSpec.ofChange matchPairsWrong)

/-- 'tapestrylaw01.ValueSames': WHATEVER THE INPUT: true; the input reads as it did. -/
def valueSamesSpec : ChangeSpec := { name := "valueSames", fn := fun _ => fun
  | [d1, d2] => { results := [.lit (.bool true)], args := [d1, d2] }
  | _ => none }
def valueSamesRow : OpenClaim := { program := "ytamllgdaepjcfaa", sum := "9b3747f017c47a274c0ae57b8f949103481e591822e50821c5744ce88a5acf80", func := "tapestry/tapestrylaw01.ValueSames", spec := "valueSames", unfollowed := true, recurses := true, loops := true, plainKeys := false, apart := false }
def ValueSamesSaid : Prop := valueSamesRow.holds Try.pinned (OpenSpec.ofChange valueSamesSpec)

/-- ITS FALSE NEIGHBOUR: 'it returns false'. Refute it at one input. -/
def valueSamesWrong : ChangeSpec := { name := "valueSames", fn := fun _ => fun
  | [d1, d2] => { results := [.lit (.bool false)], args := [d1, d2] }
  | _ => none }
def ValueSamesWrongFalsely : Prop := valueSamesRow.holds Try.pinned (OpenSpec.ofChange valueSamesWrong)

/-- 'tapestrylaw17.TaleChecks': WHATEVER THE INPUT: true; the input reads as it did. -/
def taleChecksSpec : ChangeSpec := { name := "taleChecks", fn := fun _ => fun
  | [d] => { results := [.lit (.bool true)], args := [d] }
  | _ => none }
def taleChecksRow : OpenClaim := { program := "ytamllgdaepjcfaa", sum := "9b3747f017c47a274c0ae57b8f949103481e591822e50821c5744ce88a5acf80", func := "tapestry/tapestrylaw17.TaleChecks", spec := "taleChecks", plainKeys := false, apart := false }
def TaleChecksSaid : Prop := taleChecksRow.holds Try.pinned (OpenSpec.ofChange taleChecksSpec)

/-- ITS FALSE NEIGHBOUR: 'it returns false'. Refute it at one input. -/
def taleChecksWrong : ChangeSpec := { name := "taleChecks", fn := fun _ => fun
  | [d] => { results := [.lit (.bool false)], args := [d] }
  | _ => none }
def TaleChecksWrongFalsely : Prop := taleChecksRow.holds Try.pinned (OpenSpec.ofChange taleChecksWrong)

/-- 'tapestrylaw09.PlaceSteps': WHATEVER THE INPUT: true; the input reads as it did. -/
def placeStepsSpec : ChangeSpec := { name := "placeSteps", fn := fun _ => fun
  | [d1, d2] => { results := [.lit (.bool true)], args := [d1, d2] }
  | _ => none }
def placeStepsRow : OpenClaim := { program := "ytamllgdaepjcfaa", sum := "9b3747f017c47a274c0ae57b8f949103481e591822e50821c5744ce88a5acf80", func := "tapestry/tapestrylaw09.PlaceSteps", spec := "placeSteps", unfollowed := true, recurses := true, plainKeys := false, apart := false }
def PlaceStepsSaid : Prop := placeStepsRow.holds Try.pinned (OpenSpec.ofChange placeStepsSpec)

/-- ITS FALSE NEIGHBOUR: 'it returns false'. Refute it at one input. -/
def placeStepsWrong : ChangeSpec := { name := "placeSteps", fn := fun _ => fun
  | [d1, d2] => { results := [.lit (.bool false)], args := [d1, d2] }
  | _ => none }
def PlaceStepsWrongFalsely : Prop := placeStepsRow.holds Try.pinned (OpenSpec.ofChange placeStepsWrong)

/-- 'tapestrylaw09.PlaceMakes': WHATEVER THE INPUT: true; the input reads as it did. -/
def placeMakesSpec : ChangeSpec := { name := "placeMakes", fn := fun _ => fun
  | [d1, d2] => { results := [.lit (.bool true)], args := [d1, d2] }
  | _ => none }
def placeMakesRow : OpenClaim := { program := "ytamllgdaepjcfaa", sum := "9b3747f017c47a274c0ae57b8f949103481e591822e50821c5744ce88a5acf80", func := "tapestry/tapestrylaw09.PlaceMakes", spec := "placeMakes", unfollowed := true, recurses := true, plainKeys := false, apart := false }
def PlaceMakesSaid : Prop := placeMakesRow.holds Try.pinned (OpenSpec.ofChange placeMakesSpec)

/-- ITS FALSE NEIGHBOUR: 'it returns false'. Refute it at one input. -/
def placeMakesWrong : ChangeSpec := { name := "placeMakes", fn := fun _ => fun
  | [d1, d2] => { results := [.lit (.bool false)], args := [d1, d2] }
  | _ => none }
def PlaceMakesWrongFalsely : Prop := placeMakesRow.holds Try.pinned (OpenSpec.ofChange placeMakesWrong)

/-- 'tapestrylaw09.PlaceStays': WHATEVER THE INPUT: true; the input reads as it did. -/
def placeStaysSpec : ChangeSpec := { name := "placeStays", fn := fun _ => fun
  | [d1, d2] => { results := [.lit (.bool true)], args := [d1, d2] }
  | _ => none }
def placeStaysRow : OpenClaim := { program := "ytamllgdaepjcfaa", sum := "9b3747f017c47a274c0ae57b8f949103481e591822e50821c5744ce88a5acf80", func := "tapestry/tapestrylaw09.PlaceStays", spec := "placeStays", unfollowed := true, recurses := true, plainKeys := false, apart := false }
def PlaceStaysSaid : Prop := placeStaysRow.holds Try.pinned (OpenSpec.ofChange placeStaysSpec)

/-- ITS FALSE NEIGHBOUR: 'it returns false'. Refute it at one input. -/
def placeStaysWrong : ChangeSpec := { name := "placeStays", fn := fun _ => fun
  | [d1, d2] => { results := [.lit (.bool false)], args := [d1, d2] }
  | _ => none }
def PlaceStaysWrongFalsely : Prop := placeStaysRow.holds Try.pinned (OpenSpec.ofChange placeStaysWrong)

/-- 'tapestrylaw09.PlaceKeeps': WHATEVER THE INPUT: true; the input reads as it did. -/
def placeKeepsSpec : ChangeSpec := { name := "placeKeeps", fn := fun _ => fun
  | [d] => { results := [.lit (.bool true)], args := [d] }
  | _ => none }
def placeKeepsRow : OpenClaim := { program := "ytamllgdaepjcfaa", sum := "9b3747f017c47a274c0ae57b8f949103481e591822e50821c5744ce88a5acf80", func := "tapestry/tapestrylaw09.PlaceKeeps", spec := "placeKeeps", unfollowed := true, recurses := true, plainKeys := false, apart := false }
def PlaceKeepsSaid : Prop := placeKeepsRow.holds Try.pinned (OpenSpec.ofChange placeKeepsSpec)

/-- ITS FALSE NEIGHBOUR: 'it returns false'. Refute it at one input. -/
def placeKeepsWrong : ChangeSpec := { name := "placeKeeps", fn := fun _ => fun
  | [d] => { results := [.lit (.bool false)], args := [d] }
  | _ => none }
def PlaceKeepsWrongFalsely : Prop := placeKeepsRow.holds Try.pinned (OpenSpec.ofChange placeKeepsWrong)

/-- 'tapestrylaw17.TaleBeginnings': WHATEVER THE INPUT: true; the input reads as it did. -/
def taleBeginningsSpec : ChangeSpec := { name := "taleBeginnings", fn := fun _ => fun
  | [d] => { results := [.lit (.bool true)], args := [d] }
  | _ => none }
def taleBeginningsRow : OpenClaim := { program := "ytamllgdaepjcfaa", sum := "9b3747f017c47a274c0ae57b8f949103481e591822e50821c5744ce88a5acf80", func := "tapestry/tapestrylaw17.TaleBeginnings", spec := "taleBeginnings", plainKeys := false, apart := false }
def TaleBeginningsSaid : Prop := taleBeginningsRow.holds Try.pinned (OpenSpec.ofChange taleBeginningsSpec)

/-- ITS FALSE NEIGHBOUR: 'it returns false'. Refute it at one input. -/
def taleBeginningsWrong : ChangeSpec := { name := "taleBeginnings", fn := fun _ => fun
  | [d] => { results := [.lit (.bool false)], args := [d] }
  | _ => none }
def TaleBeginningsWrongFalsely : Prop := taleBeginningsRow.holds Try.pinned (OpenSpec.ofChange taleBeginningsWrong)

/-- 'tapestrylaw17.TaleApart': WHATEVER THE INPUT: true; the input reads as it did. -/
def taleApartSpec : ChangeSpec := { name := "taleApart", fn := fun _ => fun
  | [d] => { results := [.lit (.bool true)], args := [d] }
  | _ => none }
def taleApartRow : OpenClaim := { program := "ytamllgdaepjcfaa", sum := "9b3747f017c47a274c0ae57b8f949103481e591822e50821c5744ce88a5acf80", func := "tapestry/tapestrylaw17.TaleApart", spec := "taleApart", plainKeys := false, apart := false }
def TaleApartSaid : Prop := taleApartRow.holds Try.pinned (OpenSpec.ofChange taleApartSpec)

/-- ITS FALSE NEIGHBOUR: 'it returns false'. Refute it at one input. -/
def taleApartWrong : ChangeSpec := { name := "taleApart", fn := fun _ => fun
  | [d] => { results := [.lit (.bool false)], args := [d] }
  | _ => none }
def TaleApartWrongFalsely : Prop := taleApartRow.holds Try.pinned (OpenSpec.ofChange taleApartWrong)

/-- 'tapestrylaw17.TaleLives': WHATEVER THE INPUT: true; the input reads as it did. -/
def taleLivesSpec : ChangeSpec := { name := "taleLives", fn := fun _ => fun
  | [d] => { results := [.lit (.bool true)], args := [d] }
  | _ => none }
def taleLivesRow : OpenClaim := { program := "ytamllgdaepjcfaa", sum := "9b3747f017c47a274c0ae57b8f949103481e591822e50821c5744ce88a5acf80", func := "tapestry/tapestrylaw17.TaleLives", spec := "taleLives", plainKeys := false, apart := false }
def TaleLivesSaid : Prop := taleLivesRow.holds Try.pinned (OpenSpec.ofChange taleLivesSpec)

/-- ITS FALSE NEIGHBOUR: 'it returns false'. Refute it at one input. -/
def taleLivesWrong : ChangeSpec := { name := "taleLives", fn := fun _ => fun
  | [d] => { results := [.lit (.bool false)], args := [d] }
  | _ => none }
def TaleLivesWrongFalsely : Prop := taleLivesRow.holds Try.pinned (OpenSpec.ofChange taleLivesWrong)

/-- 'tapestrylaw17.TaleTurns': WHATEVER THE INPUT: true; the input reads as it did. -/
def taleTurnsSpec : ChangeSpec := { name := "taleTurns", fn := fun _ => fun
  | [d1, d2, d3, d4] => { results := [.lit (.bool true)], args := [d1, d2, d3, d4] }
  | _ => none }
def taleTurnsRow : OpenClaim := { program := "ytamllgdaepjcfaa", sum := "9b3747f017c47a274c0ae57b8f949103481e591822e50821c5744ce88a5acf80", func := "tapestry/tapestrylaw17.TaleTurns", spec := "taleTurns", plainKeys := false, apart := false }
def TaleTurnsSaid : Prop := taleTurnsRow.holds Try.pinned (OpenSpec.ofChange taleTurnsSpec)

/-- ITS FALSE NEIGHBOUR: 'it returns false'. Refute it at one input. -/
def taleTurnsWrong : ChangeSpec := { name := "taleTurns", fn := fun _ => fun
  | [d1, d2, d3, d4] => { results := [.lit (.bool false)], args := [d1, d2, d3, d4] }
  | _ => none }
def TaleTurnsWrongFalsely : Prop := taleTurnsRow.holds Try.pinned (OpenSpec.ofChange taleTurnsWrong)

/- THE SECOND FORM. 'bulk': how many values and letters a reading holds, each counted each time it is reached (what is shared counts as often as it is met; a slice's spare places count too). A statement '..UptoSaid' is the law's where the arguments, and the package variables that the reading takes, are together of bulk at most 1048576: NARROWER than '..Said'. Prove '..Said' where nothing that the law and all that it calls make is longer than what came in: it says more and counts as full. Else prove '..UptoSaid'. A law counts once. -/
mutual
def uptoBulk {H : Type} : DataW H → Nat
  | .lit (.string bytes) => bytes.length + 1
  | .lit _ => 1
  | .nil => 1
  | .ptr d => uptoBulk d + 1
  | .slice elems spare => uptoBulkAll elems + uptoBulkAll spare + 1
  | .agg parts => uptoBulkAll parts + 1
  | .iface _ d => uptoBulk d + 1
  | .map entries => uptoBulkEntries entries + 1
  | .held _ => 1
def uptoBulkAll {H : Type} : List (DataW H) → Nat
  | [] => 0
  | d :: r => uptoBulk d + uptoBulkAll r
def uptoBulkEntries {H : Type} : List (Lit × DataW H) → Nat
  | [] => 0
  | x :: r => uptoBulkEntry x + uptoBulkEntries r
def uptoBulkEntry {H : Type} : Lit × DataW H → Nat
  | (.string bytes, d) => bytes.length + uptoBulk d + 1
  | (_, d) => uptoBulk d + 1
 end
def uptoSmall : (H : Type) → List (DataW H) → Bool := fun _ ds => decide (uptoBulkAll ds ≤ 1048576)
def OpenSpec.upto (s : _root_.Go.ChangeSpec) : _root_.Go.OpenSpec := { _root_.Go.OpenSpec.ofChange s with cond := some uptoSmall }

/-- 'tapestrylaw07.NormAlike', WHERE WHAT IT READS IS OF BULK AT MOST 1048576: true; the input reads as it did. -/
def normAlikeUptoRow : OpenClaim := { program := "ytamllgdaepjcfaa", sum := "9b3747f017c47a274c0ae57b8f949103481e591822e50821c5744ce88a5acf80", func := "tapestry/tapestrylaw07.NormAlike", spec := "normAlike", loops := true, plainKeys := false, apart := false, narrowed := true }
def NormAlikeUptoSaid : Prop := normAlikeUptoRow.holds Try.pinned (OpenSpec.upto normAlikeSpec)

/-- 'tapestrylaw09.PlaceMoves', WHERE WHAT IT READS IS OF BULK AT MOST 1048576: true; the input reads as it did. -/
def placeMovesUptoRow : OpenClaim := { program := "ytamllgdaepjcfaa", sum := "9b3747f017c47a274c0ae57b8f949103481e591822e50821c5744ce88a5acf80", func := "tapestry/tapestrylaw09.PlaceMoves", spec := "placeMoves", plainKeys := false, apart := false, narrowed := true }
def PlaceMovesUptoSaid : Prop := placeMovesUptoRow.holds Try.pinned (OpenSpec.upto placeMovesSpec)

/-- 'tapestrylaw08.MatchOnce', WHERE WHAT IT READS IS OF BULK AT MOST 1048576: true; the input reads as it did. -/
def matchOnceUptoRow : OpenClaim := { program := "ytamllgdaepjcfaa", sum := "9b3747f017c47a274c0ae57b8f949103481e591822e50821c5744ce88a5acf80", func := "tapestry/tapestrylaw08.MatchOnce", spec := "matchOnce", recurses := true, loops := true, plainKeys := false, apart := false, narrowed := true }
def MatchOnceUptoSaid : Prop := matchOnceUptoRow.holds Try.pinned (OpenSpec.upto matchOnceSpec)

/-- 'tapestrylaw08.MatchPairs', WHERE WHAT IT READS IS OF BULK AT MOST 1048576: true; the input reads as it did. -/
def matchPairsUptoRow : OpenClaim := { program := "ytamllgdaepjcfaa", sum := "9b3747f017c47a274c0ae57b8f949103481e591822e50821c5744ce88a5acf80", func := "tapestry/tapestrylaw08.MatchPairs", spec := "matchPairs", recurses := true, loops := true, plainKeys := false, apart := false, narrowed := true }
def MatchPairsUptoSaid : Prop := matchPairsUptoRow.holds Try.pinned (OpenSpec.upto matchPairsSpec)

/-- 'tapestrylaw01.ValueSames', WHERE WHAT IT READS IS OF BULK AT MOST 1048576: true; the input reads as it did. -/
def valueSamesUptoRow : OpenClaim := { program := "ytamllgdaepjcfaa", sum := "9b3747f017c47a274c0ae57b8f949103481e591822e50821c5744ce88a5acf80", func := "tapestry/tapestrylaw01.ValueSames", spec := "valueSames", unfollowed := true, recurses := true, loops := true, plainKeys := false, apart := false, narrowed := true }
def ValueSamesUptoSaid : Prop := valueSamesUptoRow.holds Try.pinned (OpenSpec.upto valueSamesSpec)

/-- 'tapestrylaw17.TaleChecks', WHERE WHAT IT READS IS OF BULK AT MOST 1048576: true; the input reads as it did. -/
def taleChecksUptoRow : OpenClaim := { program := "ytamllgdaepjcfaa", sum := "9b3747f017c47a274c0ae57b8f949103481e591822e50821c5744ce88a5acf80", func := "tapestry/tapestrylaw17.TaleChecks", spec := "taleChecks", plainKeys := false, apart := false, narrowed := true }
def TaleChecksUptoSaid : Prop := taleChecksUptoRow.holds Try.pinned (OpenSpec.upto taleChecksSpec)

/-- 'tapestrylaw09.PlaceSteps', WHERE WHAT IT READS IS OF BULK AT MOST 1048576: true; the input reads as it did. -/
def placeStepsUptoRow : OpenClaim := { program := "ytamllgdaepjcfaa", sum := "9b3747f017c47a274c0ae57b8f949103481e591822e50821c5744ce88a5acf80", func := "tapestry/tapestrylaw09.PlaceSteps", spec := "placeSteps", unfollowed := true, recurses := true, plainKeys := false, apart := false, narrowed := true }
def PlaceStepsUptoSaid : Prop := placeStepsUptoRow.holds Try.pinned (OpenSpec.upto placeStepsSpec)

/-- 'tapestrylaw09.PlaceMakes', WHERE WHAT IT READS IS OF BULK AT MOST 1048576: true; the input reads as it did. -/
def placeMakesUptoRow : OpenClaim := { program := "ytamllgdaepjcfaa", sum := "9b3747f017c47a274c0ae57b8f949103481e591822e50821c5744ce88a5acf80", func := "tapestry/tapestrylaw09.PlaceMakes", spec := "placeMakes", unfollowed := true, recurses := true, plainKeys := false, apart := false, narrowed := true }
def PlaceMakesUptoSaid : Prop := placeMakesUptoRow.holds Try.pinned (OpenSpec.upto placeMakesSpec)

/-- 'tapestrylaw09.PlaceStays', WHERE WHAT IT READS IS OF BULK AT MOST 1048576: true; the input reads as it did. -/
def placeStaysUptoRow : OpenClaim := { program := "ytamllgdaepjcfaa", sum := "9b3747f017c47a274c0ae57b8f949103481e591822e50821c5744ce88a5acf80", func := "tapestry/tapestrylaw09.PlaceStays", spec := "placeStays", unfollowed := true, recurses := true, plainKeys := false, apart := false, narrowed := true }
def PlaceStaysUptoSaid : Prop := placeStaysUptoRow.holds Try.pinned (OpenSpec.upto placeStaysSpec)

/-- 'tapestrylaw09.PlaceKeeps', WHERE WHAT IT READS IS OF BULK AT MOST 1048576: true; the input reads as it did. -/
def placeKeepsUptoRow : OpenClaim := { program := "ytamllgdaepjcfaa", sum := "9b3747f017c47a274c0ae57b8f949103481e591822e50821c5744ce88a5acf80", func := "tapestry/tapestrylaw09.PlaceKeeps", spec := "placeKeeps", unfollowed := true, recurses := true, plainKeys := false, apart := false, narrowed := true }
def PlaceKeepsUptoSaid : Prop := placeKeepsUptoRow.holds Try.pinned (OpenSpec.upto placeKeepsSpec)

/-- 'tapestrylaw17.TaleBeginnings', WHERE WHAT IT READS IS OF BULK AT MOST 1048576: true; the input reads as it did. -/
def taleBeginningsUptoRow : OpenClaim := { program := "ytamllgdaepjcfaa", sum := "9b3747f017c47a274c0ae57b8f949103481e591822e50821c5744ce88a5acf80", func := "tapestry/tapestrylaw17.TaleBeginnings", spec := "taleBeginnings", plainKeys := false, apart := false, narrowed := true }
def TaleBeginningsUptoSaid : Prop := taleBeginningsUptoRow.holds Try.pinned (OpenSpec.upto taleBeginningsSpec)

/-- 'tapestrylaw17.TaleApart', WHERE WHAT IT READS IS OF BULK AT MOST 1048576: true; the input reads as it did. -/
def taleApartUptoRow : OpenClaim := { program := "ytamllgdaepjcfaa", sum := "9b3747f017c47a274c0ae57b8f949103481e591822e50821c5744ce88a5acf80", func := "tapestry/tapestrylaw17.TaleApart", spec := "taleApart", plainKeys := false, apart := false, narrowed := true }
def TaleApartUptoSaid : Prop := taleApartUptoRow.holds Try.pinned (OpenSpec.upto taleApartSpec)

/-- 'tapestrylaw17.TaleLives', WHERE WHAT IT READS IS OF BULK AT MOST 1048576: true; the input reads as it did. -/
def taleLivesUptoRow : OpenClaim := { program := "ytamllgdaepjcfaa", sum := "9b3747f017c47a274c0ae57b8f949103481e591822e50821c5744ce88a5acf80", func := "tapestry/tapestrylaw17.TaleLives", spec := "taleLives", plainKeys := false, apart := false, narrowed := true }
def TaleLivesUptoSaid : Prop := taleLivesUptoRow.holds Try.pinned (OpenSpec.upto taleLivesSpec)

/-- 'tapestrylaw17.TaleTurns', WHERE WHAT IT READS IS OF BULK AT MOST 1048576: true; the input reads as it did. -/
def taleTurnsUptoRow : OpenClaim := { program := "ytamllgdaepjcfaa", sum := "9b3747f017c47a274c0ae57b8f949103481e591822e50821c5744ce88a5acf80", func := "tapestry/tapestrylaw17.TaleTurns", spec := "taleTurns", plainKeys := false, apart := false, narrowed := true }
def TaleTurnsUptoSaid : Prop := taleTurnsUptoRow.holds Try.pinned (OpenSpec.upto taleTurnsSpec)

end Rows
end Go.Proofs.Ytamllgdaepjcfaa
