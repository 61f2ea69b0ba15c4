/-
  NARROWER THAN 'FOR EVERY INPUT', by the rows' own cells (each row's printed sentence says how): MinimalApart: laid · PlacesReads: laid · PlacesTurn: laid · PairReads: laid · MinimalOf: laid · MinimalSays: laid · MinimalNew: laid · MinimalLeast: laid · MinimalOne: laid.
  DERIVED. THE GIVEN ROWS OF THIS SEAT. 9 by the template 'for every input the law returns true; each argument reads behind the call as it read before'; 0 by the template 'total and deterministic' (their statements: YtfonajakaimnoaaDoorTotals.lean).
  GIVEN WITH THE SEED: the statements are not yours to turn. If you find one false, say at which input.
  Laid BY PROGRAM, IN A SANDBOX (cutbox-rows.mjs): the forced cells as the released guide's own fill.sh prints them over the translation fda687684a5d7755… (all of the seat's roots in one cut). By AI agents, Wed Nov 11 2026. No macro, syntax, notation, axiom, sorry.
-/
import Derived.Test.YtfonajakaimnoaaDoorChecked
import GoSem.Claim
import GoSem.ClaimJoined
import GoSem.ClaimMapViews
import Derived.JoinedTies
import Derived.KernelRfl
namespace Go.Proofs.YtfonajakaimnoaaDoor
/- THE CELL 'sum', in the pinned program and in every row, IS THE sha256 OF THE DUMP (.gsa) THAT YtfonajakaimnoaaDoorProg.lean LOADS. Nothing in Lean hashes anything: it is a label: what it is worth is what the hold of that sum in a sandbox is worth. -/
noncomputable def Tryd.pinned : Pinned := { name := "ytfonajakaimnoaadoor", sum := "fda687684a5d77559d7848cd66a19802a61cdb1a9eac66faf07a7a1c131c69c6", checked := Tryd.checked }
namespace Rows
def none {H : Type} : Left H := { results := [], args := [] }

/- WHAT THE LISTED PACKAGE-LEVEL VARIABLES READ AS WHEN THE CALL BEGINS. Each datum BY PROGRAM (the guide's laid-datum.mjs) off the statement by which the dump's own 'gosem.cut.vars' lays the variable. In a bare row this is a premise. The card (YtfonajakaimnoaaDoorCards.lean) ties it to the program's text. -/
def laid_caesura_api_ErrArg {H : Type} : DataW H := .iface "*errors.errorString" (.ptr (.agg [.lit (.string [97, 32, 110, 117, 109, 98, 101, 114, 32, 111, 114, 32, 97, 110, 32, 97, 114, 103, 117, 109, 101, 110, 116, 32, 105, 115, 32, 111, 117, 116, 32, 111, 102, 32, 105, 116, 115, 32, 112, 108, 97, 99, 101])]))
def laid_caesura_api_ErrText {H : Type} : DataW H := .iface "*errors.errorString" (.ptr (.agg [.lit (.string [97, 32, 116, 101, 120, 116, 32, 111, 114, 32, 98, 121, 116, 101, 115, 32, 116, 104, 97, 116, 32, 99, 97, 110, 110, 111, 116, 32, 98, 101, 32, 114, 101, 97, 100])]))
def laid_caesura_api_ErrMany {H : Type} : DataW H := .iface "*errors.errorString" (.ptr (.agg [.lit (.string [97, 98, 111, 118, 101, 32, 97, 32, 108, 105, 109, 105, 116])]))
def laid_caesura_api_ErrShort {H : Type} : DataW H := .iface "*errors.errorString" (.ptr (.agg [.lit (.string [115, 111, 109, 101, 116, 104, 105, 110, 103, 32, 105, 115, 32, 109, 105, 115, 115, 105, 110, 103])]))
def laid_caesura_api_ErrTwice {H : Type} : DataW H := .iface "*errors.errorString" (.ptr (.agg [.lit (.string [116, 104, 101, 114, 101, 32, 116, 119, 105, 99, 101])]))
def laid_caesura_api_ErrLost {H : Type} : DataW H := .iface "*errors.errorString" (.ptr (.agg [.lit (.string [110, 111, 116, 32, 116, 104, 101, 114, 101])]))
def laid_caesura_api_ErrOrder {H : Type} : DataW H := .iface "*errors.errorString" (.ptr (.agg [.lit (.string [110, 111, 116, 32, 105, 110, 32, 111, 114, 100, 101, 114])]))
def laid_caesura_api_ErrCycle {H : Type} : DataW H := .iface "*errors.errorString" (.ptr (.agg [.lit (.string [103, 111, 101, 115, 32, 114, 111, 117, 110, 100, 32, 105, 110, 32, 97, 32, 99, 105, 114, 99, 108, 101])]))
def laid_caesura_api_ErrSum {H : Type} : DataW H := .iface "*errors.errorString" (.ptr (.agg [.lit (.string [116, 104, 101, 32, 115, 117, 109, 32, 100, 111, 101, 115, 32, 110, 111, 116, 32, 102, 105, 116])]))
def laid_caesura_api_ErrForm {H : Type} : DataW H := .iface "*errors.errorString" (.ptr (.agg [.lit (.string [110, 111, 116, 32, 116, 104, 101, 32, 111, 110, 101, 32, 102, 111, 114, 109, 32, 116, 104, 97, 116, 32, 105, 115, 32, 119, 114, 105, 116, 116, 101, 110])]))
def laid_caesura_api_ErrEnd {H : Type} : DataW H := .iface "*errors.errorString" (.ptr (.agg [.lit (.string [105, 116, 32, 104, 97, 115, 32, 101, 110, 100, 101, 100])]))
def laid_math_bits_deBruijn32tab {H : Type} : DataW H := .agg [.lit (.int .u8 0), .lit (.int .u8 1), .lit (.int .u8 28), .lit (.int .u8 2), .lit (.int .u8 29), .lit (.int .u8 14), .lit (.int .u8 24), .lit (.int .u8 3), .lit (.int .u8 30), .lit (.int .u8 22), .lit (.int .u8 20), .lit (.int .u8 15), .lit (.int .u8 25), .lit (.int .u8 17), .lit (.int .u8 4), .lit (.int .u8 8), .lit (.int .u8 31), .lit (.int .u8 27), .lit (.int .u8 13), .lit (.int .u8 23), .lit (.int .u8 21), .lit (.int .u8 19), .lit (.int .u8 16), .lit (.int .u8 7), .lit (.int .u8 26), .lit (.int .u8 12), .lit (.int .u8 18), .lit (.int .u8 6), .lit (.int .u8 11), .lit (.int .u8 5), .lit (.int .u8 10), .lit (.int .u8 9)]
def laid_math_bits_deBruijn64tab {H : Type} : DataW H := .agg [.lit (.int .u8 0), .lit (.int .u8 1), .lit (.int .u8 56), .lit (.int .u8 2), .lit (.int .u8 57), .lit (.int .u8 49), .lit (.int .u8 28), .lit (.int .u8 3), .lit (.int .u8 61), .lit (.int .u8 58), .lit (.int .u8 42), .lit (.int .u8 50), .lit (.int .u8 38), .lit (.int .u8 29), .lit (.int .u8 17), .lit (.int .u8 4), .lit (.int .u8 62), .lit (.int .u8 47), .lit (.int .u8 59), .lit (.int .u8 36), .lit (.int .u8 45), .lit (.int .u8 43), .lit (.int .u8 51), .lit (.int .u8 22), .lit (.int .u8 53), .lit (.int .u8 39), .lit (.int .u8 33), .lit (.int .u8 30), .lit (.int .u8 24), .lit (.int .u8 18), .lit (.int .u8 12), .lit (.int .u8 5), .lit (.int .u8 63), .lit (.int .u8 55), .lit (.int .u8 48), .lit (.int .u8 27), .lit (.int .u8 60), .lit (.int .u8 41), .lit (.int .u8 37), .lit (.int .u8 16), .lit (.int .u8 46), .lit (.int .u8 35), .lit (.int .u8 44), .lit (.int .u8 21), .lit (.int .u8 52), .lit (.int .u8 32), .lit (.int .u8 23), .lit (.int .u8 11), .lit (.int .u8 54), .lit (.int .u8 26), .lit (.int .u8 40), .lit (.int .u8 15), .lit (.int .u8 34), .lit (.int .u8 20), .lit (.int .u8 31), .lit (.int .u8 10), .lit (.int .u8 25), .lit (.int .u8 14), .lit (.int .u8 19), .lit (.int .u8 9), .lit (.int .u8 13), .lit (.int .u8 8), .lit (.int .u8 7), .lit (.int .u8 6)]
def laid_internal_strconv_uint64pow10 {H : Type} : DataW H := .agg [.lit (.int .u64 1), .lit (.int .u64 10), .lit (.int .u64 100), .lit (.int .u64 1000), .lit (.int .u64 10000), .lit (.int .u64 100000), .lit (.int .u64 1000000), .lit (.int .u64 10000000), .lit (.int .u64 100000000), .lit (.int .u64 1000000000), .lit (.int .u64 10000000000), .lit (.int .u64 100000000000), .lit (.int .u64 1000000000000), .lit (.int .u64 10000000000000), .lit (.int .u64 100000000000000), .lit (.int .u64 1000000000000000), .lit (.int .u64 10000000000000000), .lit (.int .u64 100000000000000000), .lit (.int .u64 1000000000000000000), .lit (.int .u64 10000000000000000000)]

/-- 'caesuralaw13.MinimalApart': WHATEVER THE INPUT: true; the input reads as it did. -/
def minimalApartSpec : ChangeSpec := { name := "minimalApart", fn := fun _ => fun
  | [d] => { results := [.lit (.bool true)], args := [d] }
  | _ => none }
def minimalApartRow : OpenClaim := { program := "ytfonajakaimnoaadoor", sum := "fda687684a5d77559d7848cd66a19802a61cdb1a9eac66faf07a7a1c131c69c6", func := "caesura/caesuralaw13.MinimalApart", spec := "minimalApart", unfollowed := true, recurses := true, named := ["caesura/api.ErrArg", "caesura/api.ErrText", "caesura/api.ErrMany", "caesura/api.ErrShort", "caesura/api.ErrTwice", "caesura/api.ErrOrder", "caesura/api.ErrLost", "caesura/api.ErrCycle", "caesura/api.ErrSum", "caesura/api.ErrForm", "caesura/api.ErrEnd"], plainKeys := false, apart := false, laid := [("caesura/api.ErrArg", laid_caesura_api_ErrArg), ("caesura/api.ErrText", laid_caesura_api_ErrText), ("caesura/api.ErrMany", laid_caesura_api_ErrMany), ("caesura/api.ErrShort", laid_caesura_api_ErrShort), ("caesura/api.ErrTwice", laid_caesura_api_ErrTwice), ("caesura/api.ErrLost", laid_caesura_api_ErrLost), ("caesura/api.ErrOrder", laid_caesura_api_ErrOrder), ("caesura/api.ErrCycle", laid_caesura_api_ErrCycle), ("caesura/api.ErrSum", laid_caesura_api_ErrSum), ("caesura/api.ErrForm", laid_caesura_api_ErrForm), ("caesura/api.ErrEnd", laid_caesura_api_ErrEnd)] }
def MinimalApartSaid : Prop := minimalApartRow.holds Tryd.pinned (OpenSpec.ofChange minimalApartSpec)

/-- ITS FALSE NEIGHBOUR: 'it returns false'. Refute it at one input. -/
def minimalApartWrong : ChangeSpec := { name := "minimalApart", fn := fun _ => fun
  | [d] => { results := [.lit (.bool false)], args := [d] }
  | _ => none }
def MinimalApartWrongFalsely : Prop := minimalApartRow.holds Tryd.pinned (OpenSpec.ofChange minimalApartWrong)

/-- 'caesuralaw11.PlacesReads': WHATEVER THE INPUT: true; the input reads as it did. -/
def placesReadsSpec : ChangeSpec := { name := "placesReads", fn := fun _ => fun
  | [d] => { results := [.lit (.bool true)], args := [d] }
  | _ => none }
def placesReadsRow : OpenClaim := { program := "ytfonajakaimnoaadoor", sum := "fda687684a5d77559d7848cd66a19802a61cdb1a9eac66faf07a7a1c131c69c6", func := "caesura/caesuralaw11.PlacesReads", spec := "placesReads", unfollowed := true, recurses := true, named := ["caesura/api.ErrMany", "caesura/api.ErrArg", "caesura/api.ErrText", "caesura/api.ErrShort", "caesura/api.ErrTwice", "caesura/api.ErrOrder", "caesura/api.ErrLost", "caesura/api.ErrCycle", "caesura/api.ErrSum", "caesura/api.ErrForm", "caesura/api.ErrEnd"], plainKeys := false, apart := false, laid := [("caesura/api.ErrArg", laid_caesura_api_ErrArg), ("caesura/api.ErrText", laid_caesura_api_ErrText), ("caesura/api.ErrMany", laid_caesura_api_ErrMany), ("caesura/api.ErrShort", laid_caesura_api_ErrShort), ("caesura/api.ErrTwice", laid_caesura_api_ErrTwice), ("caesura/api.ErrLost", laid_caesura_api_ErrLost), ("caesura/api.ErrOrder", laid_caesura_api_ErrOrder), ("caesura/api.ErrCycle", laid_caesura_api_ErrCycle), ("caesura/api.ErrSum", laid_caesura_api_ErrSum), ("caesura/api.ErrForm", laid_caesura_api_ErrForm), ("caesura/api.ErrEnd", laid_caesura_api_ErrEnd)] }
def PlacesReadsSaid : Prop := placesReadsRow.holds Tryd.pinned (OpenSpec.ofChange placesReadsSpec)

/-- ITS FALSE NEIGHBOUR: 'it returns false'. Refute it at one input. -/
def placesReadsWrong : ChangeSpec := { name := "placesReads", fn := fun _ => fun
  | [d] => { results := [.lit (.bool false)], args := [d] }
  | _ => none }
def PlacesReadsWrongFalsely : Prop := placesReadsRow.holds Tryd.pinned (OpenSpec.ofChange placesReadsWrong)

/-- 'caesuralaw11.PlacesTurn': WHATEVER THE INPUT: true; the input reads as it did. -/
def placesTurnSpec : ChangeSpec := { name := "placesTurn", fn := fun _ => fun
  | [d] => { results := [.lit (.bool true)], args := [d] }
  | _ => none }
def placesTurnRow : OpenClaim := { program := "ytfonajakaimnoaadoor", sum := "fda687684a5d77559d7848cd66a19802a61cdb1a9eac66faf07a7a1c131c69c6", func := "caesura/caesuralaw11.PlacesTurn", spec := "placesTurn", unfollowed := true, recurses := true, named := ["caesura/api.ErrMany", "caesura/api.ErrArg"], plainKeys := false, apart := false, laid := [("caesura/api.ErrArg", laid_caesura_api_ErrArg), ("caesura/api.ErrMany", laid_caesura_api_ErrMany)] }
def PlacesTurnSaid : Prop := placesTurnRow.holds Tryd.pinned (OpenSpec.ofChange placesTurnSpec)

/-- ITS FALSE NEIGHBOUR: 'it returns false'. Refute it at one input. -/
def placesTurnWrong : ChangeSpec := { name := "placesTurn", fn := fun _ => fun
  | [d] => { results := [.lit (.bool false)], args := [d] }
  | _ => none }
def PlacesTurnWrongFalsely : Prop := placesTurnRow.holds Tryd.pinned (OpenSpec.ofChange placesTurnWrong)

/-- 'caesuralaw14.PairReads': WHATEVER THE INPUT: true; the input reads as it did. -/
def pairReadsSpec : ChangeSpec := { name := "pairReads", fn := fun _ => fun
  | [d] => { results := [.lit (.bool true)], args := [d] }
  | _ => none }
def pairReadsRow : OpenClaim := { program := "ytfonajakaimnoaadoor", sum := "fda687684a5d77559d7848cd66a19802a61cdb1a9eac66faf07a7a1c131c69c6", func := "caesura/caesuralaw14.PairReads", spec := "pairReads", unfollowed := true, recurses := true, named := ["caesura/api.ErrArg", "caesura/api.ErrText", "caesura/api.ErrMany", "caesura/api.ErrShort", "caesura/api.ErrTwice", "caesura/api.ErrOrder", "caesura/api.ErrLost", "caesura/api.ErrCycle", "caesura/api.ErrSum", "caesura/api.ErrForm", "caesura/api.ErrEnd"], plainKeys := false, apart := false, laid := [("caesura/api.ErrArg", laid_caesura_api_ErrArg), ("caesura/api.ErrText", laid_caesura_api_ErrText), ("caesura/api.ErrMany", laid_caesura_api_ErrMany), ("caesura/api.ErrShort", laid_caesura_api_ErrShort), ("caesura/api.ErrTwice", laid_caesura_api_ErrTwice), ("caesura/api.ErrLost", laid_caesura_api_ErrLost), ("caesura/api.ErrOrder", laid_caesura_api_ErrOrder), ("caesura/api.ErrCycle", laid_caesura_api_ErrCycle), ("caesura/api.ErrSum", laid_caesura_api_ErrSum), ("caesura/api.ErrForm", laid_caesura_api_ErrForm), ("caesura/api.ErrEnd", laid_caesura_api_ErrEnd)] }
def PairReadsSaid : Prop := pairReadsRow.holds Tryd.pinned (OpenSpec.ofChange pairReadsSpec)

/-- ITS FALSE NEIGHBOUR: 'it returns false'. Refute it at one input. -/
def pairReadsWrong : ChangeSpec := { name := "pairReads", fn := fun _ => fun
  | [d] => { results := [.lit (.bool false)], args := [d] }
  | _ => none }
def PairReadsWrongFalsely : Prop := pairReadsRow.holds Tryd.pinned (OpenSpec.ofChange pairReadsWrong)

/-- 'caesuralaw13.MinimalOf': WHATEVER THE INPUT: true; the input reads as it did. -/
def minimalOfSpec : ChangeSpec := { name := "minimalOf", fn := fun _ => fun
  | [d] => { results := [.lit (.bool true)], args := [d] }
  | _ => none }
def minimalOfRow : OpenClaim := { program := "ytfonajakaimnoaadoor", sum := "fda687684a5d77559d7848cd66a19802a61cdb1a9eac66faf07a7a1c131c69c6", func := "caesura/caesuralaw13.MinimalOf", spec := "minimalOf", inPlace := ["internal/abi.NoEscape"], unfollowed := true, recurses := true, named := ["caesura/api.ErrArg", "internal/strconv.uint64pow10", "math/bits.deBruijn32tab", "math/bits.deBruijn64tab", "caesura/api.ErrText", "caesura/api.ErrMany", "caesura/api.ErrShort", "caesura/api.ErrTwice", "caesura/api.ErrOrder", "caesura/api.ErrLost", "caesura/api.ErrCycle", "caesura/api.ErrSum", "caesura/api.ErrForm", "caesura/api.ErrEnd"], plainKeys := false, apart := false, laid := [("math/bits.deBruijn32tab", laid_math_bits_deBruijn32tab), ("math/bits.deBruijn64tab", laid_math_bits_deBruijn64tab), ("internal/strconv.uint64pow10", laid_internal_strconv_uint64pow10), ("caesura/api.ErrArg", laid_caesura_api_ErrArg), ("caesura/api.ErrText", laid_caesura_api_ErrText), ("caesura/api.ErrMany", laid_caesura_api_ErrMany), ("caesura/api.ErrShort", laid_caesura_api_ErrShort), ("caesura/api.ErrTwice", laid_caesura_api_ErrTwice), ("caesura/api.ErrLost", laid_caesura_api_ErrLost), ("caesura/api.ErrOrder", laid_caesura_api_ErrOrder), ("caesura/api.ErrCycle", laid_caesura_api_ErrCycle), ("caesura/api.ErrSum", laid_caesura_api_ErrSum), ("caesura/api.ErrForm", laid_caesura_api_ErrForm), ("caesura/api.ErrEnd", laid_caesura_api_ErrEnd)] }
def MinimalOfSaid : Prop := minimalOfRow.holds Tryd.pinned (OpenSpec.ofChange minimalOfSpec)

/-- ITS FALSE NEIGHBOUR: 'it returns false'. Refute it at one input. -/
def minimalOfWrong : ChangeSpec := { name := "minimalOf", fn := fun _ => fun
  | [d] => { results := [.lit (.bool false)], args := [d] }
  | _ => none }
def MinimalOfWrongFalsely : Prop := minimalOfRow.holds Tryd.pinned (OpenSpec.ofChange minimalOfWrong)

/-- 'caesuralaw13.MinimalSays': WHATEVER THE INPUT: true; the input reads as it did. -/
def minimalSaysSpec : ChangeSpec := { name := "minimalSays", fn := fun _ => fun
  | [d] => { results := [.lit (.bool true)], args := [d] }
  | _ => none }
def minimalSaysRow : OpenClaim := { program := "ytfonajakaimnoaadoor", sum := "fda687684a5d77559d7848cd66a19802a61cdb1a9eac66faf07a7a1c131c69c6", func := "caesura/caesuralaw13.MinimalSays", spec := "minimalSays", inPlace := ["internal/abi.NoEscape"], unfollowed := true, recurses := true, named := ["caesura/api.ErrArg", "internal/strconv.uint64pow10", "math/bits.deBruijn32tab", "math/bits.deBruijn64tab", "caesura/api.ErrText", "caesura/api.ErrMany", "caesura/api.ErrShort", "caesura/api.ErrTwice", "caesura/api.ErrOrder", "caesura/api.ErrLost", "caesura/api.ErrCycle", "caesura/api.ErrSum", "caesura/api.ErrForm", "caesura/api.ErrEnd"], plainKeys := false, apart := false, laid := [("math/bits.deBruijn32tab", laid_math_bits_deBruijn32tab), ("math/bits.deBruijn64tab", laid_math_bits_deBruijn64tab), ("internal/strconv.uint64pow10", laid_internal_strconv_uint64pow10), ("caesura/api.ErrArg", laid_caesura_api_ErrArg), ("caesura/api.ErrText", laid_caesura_api_ErrText), ("caesura/api.ErrMany", laid_caesura_api_ErrMany), ("caesura/api.ErrShort", laid_caesura_api_ErrShort), ("caesura/api.ErrTwice", laid_caesura_api_ErrTwice), ("caesura/api.ErrLost", laid_caesura_api_ErrLost), ("caesura/api.ErrOrder", laid_caesura_api_ErrOrder), ("caesura/api.ErrCycle", laid_caesura_api_ErrCycle), ("caesura/api.ErrSum", laid_caesura_api_ErrSum), ("caesura/api.ErrForm", laid_caesura_api_ErrForm), ("caesura/api.ErrEnd", laid_caesura_api_ErrEnd)] }
def MinimalSaysSaid : Prop := minimalSaysRow.holds Tryd.pinned (OpenSpec.ofChange minimalSaysSpec)

/-- ITS FALSE NEIGHBOUR: 'it returns false'. Refute it at one input. -/
def minimalSaysWrong : ChangeSpec := { name := "minimalSays", fn := fun _ => fun
  | [d] => { results := [.lit (.bool false)], args := [d] }
  | _ => none }
def MinimalSaysWrongFalsely : Prop := minimalSaysRow.holds Tryd.pinned (OpenSpec.ofChange minimalSaysWrong)

/-- 'caesuralaw13.MinimalNew': WHATEVER THE INPUT: true; the input reads as it did. -/
def minimalNewSpec : ChangeSpec := { name := "minimalNew", fn := fun _ => fun
  | [d] => { results := [.lit (.bool true)], args := [d] }
  | _ => none }
def minimalNewRow : OpenClaim := { program := "ytfonajakaimnoaadoor", sum := "fda687684a5d77559d7848cd66a19802a61cdb1a9eac66faf07a7a1c131c69c6", func := "caesura/caesuralaw13.MinimalNew", spec := "minimalNew", inPlace := ["internal/abi.NoEscape"], unfollowed := true, recurses := true, named := ["caesura/api.ErrArg", "internal/strconv.uint64pow10", "math/bits.deBruijn32tab", "math/bits.deBruijn64tab"], plainKeys := false, apart := false, laid := [("math/bits.deBruijn32tab", laid_math_bits_deBruijn32tab), ("math/bits.deBruijn64tab", laid_math_bits_deBruijn64tab), ("internal/strconv.uint64pow10", laid_internal_strconv_uint64pow10), ("caesura/api.ErrArg", laid_caesura_api_ErrArg)] }
def MinimalNewSaid : Prop := minimalNewRow.holds Tryd.pinned (OpenSpec.ofChange minimalNewSpec)

/-- ITS FALSE NEIGHBOUR: 'it returns false'. Refute it at one input. -/
def minimalNewWrong : ChangeSpec := { name := "minimalNew", fn := fun _ => fun
  | [d] => { results := [.lit (.bool false)], args := [d] }
  | _ => none }
def MinimalNewWrongFalsely : Prop := minimalNewRow.holds Tryd.pinned (OpenSpec.ofChange minimalNewWrong)

/-- 'caesuralaw13.MinimalLeast': WHATEVER THE INPUT: true; the input reads as it did. -/
def minimalLeastSpec : ChangeSpec := { name := "minimalLeast", fn := fun _ => fun
  | [d] => { results := [.lit (.bool true)], args := [d] }
  | _ => none }
def minimalLeastRow : OpenClaim := { program := "ytfonajakaimnoaadoor", sum := "fda687684a5d77559d7848cd66a19802a61cdb1a9eac66faf07a7a1c131c69c6", func := "caesura/caesuralaw13.MinimalLeast", spec := "minimalLeast", inPlace := ["internal/abi.NoEscape"], unfollowed := true, recurses := true, named := ["caesura/api.ErrArg", "internal/strconv.uint64pow10", "math/bits.deBruijn32tab", "math/bits.deBruijn64tab"], plainKeys := false, apart := false, laid := [("math/bits.deBruijn32tab", laid_math_bits_deBruijn32tab), ("math/bits.deBruijn64tab", laid_math_bits_deBruijn64tab), ("internal/strconv.uint64pow10", laid_internal_strconv_uint64pow10), ("caesura/api.ErrArg", laid_caesura_api_ErrArg)] }
def MinimalLeastSaid : Prop := minimalLeastRow.holds Tryd.pinned (OpenSpec.ofChange minimalLeastSpec)

/-- ITS FALSE NEIGHBOUR: 'it returns false'. Refute it at one input. -/
def minimalLeastWrong : ChangeSpec := { name := "minimalLeast", fn := fun _ => fun
  | [d] => { results := [.lit (.bool false)], args := [d] }
  | _ => none }
def MinimalLeastWrongFalsely : Prop := minimalLeastRow.holds Tryd.pinned (OpenSpec.ofChange minimalLeastWrong)

/-- 'caesuralaw13.MinimalOne': WHATEVER THE INPUT: true; the input reads as it did. -/
def minimalOneSpec : ChangeSpec := { name := "minimalOne", fn := fun _ => fun
  | [d] => { results := [.lit (.bool true)], args := [d] }
  | _ => none }
def minimalOneRow : OpenClaim := { program := "ytfonajakaimnoaadoor", sum := "fda687684a5d77559d7848cd66a19802a61cdb1a9eac66faf07a7a1c131c69c6", func := "caesura/caesuralaw13.MinimalOne", spec := "minimalOne", inPlace := ["internal/abi.NoEscape"], unfollowed := true, recurses := true, named := ["caesura/api.ErrArg", "internal/strconv.uint64pow10", "math/bits.deBruijn32tab", "math/bits.deBruijn64tab"], plainKeys := false, apart := false, laid := [("math/bits.deBruijn32tab", laid_math_bits_deBruijn32tab), ("math/bits.deBruijn64tab", laid_math_bits_deBruijn64tab), ("internal/strconv.uint64pow10", laid_internal_strconv_uint64pow10), ("caesura/api.ErrArg", laid_caesura_api_ErrArg)] }
def MinimalOneSaid : Prop := minimalOneRow.holds Tryd.pinned (OpenSpec.ofChange minimalOneSpec)

/-- ITS FALSE NEIGHBOUR: 'it returns false'. Refute it at one input. -/
def minimalOneWrong : ChangeSpec := { name := "minimalOne", fn := fun _ => fun
  | [d] => { results := [.lit (.bool false)], args := [d] }
  | _ => none }
def MinimalOneWrongFalsely : Prop := minimalOneRow.holds Tryd.pinned (OpenSpec.ofChange minimalOneWrong)

/- THE SECOND FORM. 'bulk': how many values and letters a reading holds, each counted each time it is reached (what is shared counts as often as it is met; a slice's spare places count too). A statement '..UptoSaid' is the law's where the arguments, and the package variables that the reading takes, are together of bulk at most 1048576: NARROWER than '..Said'. Prove '..Said' where nothing that the law and all that it calls make is longer than what came in: it says more and counts as full. Else prove '..UptoSaid'. A law counts once. -/
mutual
def uptoBulk {H : Type} : DataW H → Nat
  | .lit (.string bytes) => bytes.length + 1
  | .lit _ => 1
  | .nil => 1
  | .ptr d => uptoBulk d + 1
  | .slice elems spare => uptoBulkAll elems + uptoBulkAll spare + 1
  | .agg parts => uptoBulkAll parts + 1
  | .iface _ d => uptoBulk d + 1
  | .map entries => uptoBulkEntries entries + 1
  | .held _ => 1
def uptoBulkAll {H : Type} : List (DataW H) → Nat
  | [] => 0
  | d :: r => uptoBulk d + uptoBulkAll r
def uptoBulkEntries {H : Type} : List (Lit × DataW H) → Nat
  | [] => 0
  | x :: r => uptoBulkEntry x + uptoBulkEntries r
def uptoBulkEntry {H : Type} : Lit × DataW H → Nat
  | (.string bytes, d) => bytes.length + uptoBulk d + 1
  | (_, d) => uptoBulk d + 1
 end
def uptoSmall : (H : Type) → List (DataW H) → Bool := fun _ ds => decide (uptoBulkAll ds ≤ 1048576)
def OpenSpec.upto (s : _root_.Go.ChangeSpec) : _root_.Go.OpenSpec := { _root_.Go.OpenSpec.ofChange s with cond := some uptoSmall }

/-- 'caesuralaw13.MinimalApart', WHERE WHAT IT READS IS OF BULK AT MOST 1048576: true; the input reads as it did. -/
def minimalApartUptoRow : OpenClaim := { program := "ytfonajakaimnoaadoor", sum := "fda687684a5d77559d7848cd66a19802a61cdb1a9eac66faf07a7a1c131c69c6", func := "caesura/caesuralaw13.MinimalApart", spec := "minimalApart", unfollowed := true, recurses := true, named := ["caesura/api.ErrArg", "caesura/api.ErrText", "caesura/api.ErrMany", "caesura/api.ErrShort", "caesura/api.ErrTwice", "caesura/api.ErrOrder", "caesura/api.ErrLost", "caesura/api.ErrCycle", "caesura/api.ErrSum", "caesura/api.ErrForm", "caesura/api.ErrEnd"], plainKeys := false, apart := false, laid := [("caesura/api.ErrArg", laid_caesura_api_ErrArg), ("caesura/api.ErrText", laid_caesura_api_ErrText), ("caesura/api.ErrMany", laid_caesura_api_ErrMany), ("caesura/api.ErrShort", laid_caesura_api_ErrShort), ("caesura/api.ErrTwice", laid_caesura_api_ErrTwice), ("caesura/api.ErrLost", laid_caesura_api_ErrLost), ("caesura/api.ErrOrder", laid_caesura_api_ErrOrder), ("caesura/api.ErrCycle", laid_caesura_api_ErrCycle), ("caesura/api.ErrSum", laid_caesura_api_ErrSum), ("caesura/api.ErrForm", laid_caesura_api_ErrForm), ("caesura/api.ErrEnd", laid_caesura_api_ErrEnd)], narrowed := true }
def MinimalApartUptoSaid : Prop := minimalApartUptoRow.holds Tryd.pinned (OpenSpec.upto minimalApartSpec)

/-- 'caesuralaw11.PlacesReads', WHERE WHAT IT READS IS OF BULK AT MOST 1048576: true; the input reads as it did. -/
def placesReadsUptoRow : OpenClaim := { program := "ytfonajakaimnoaadoor", sum := "fda687684a5d77559d7848cd66a19802a61cdb1a9eac66faf07a7a1c131c69c6", func := "caesura/caesuralaw11.PlacesReads", spec := "placesReads", unfollowed := true, recurses := true, named := ["caesura/api.ErrMany", "caesura/api.ErrArg", "caesura/api.ErrText", "caesura/api.ErrShort", "caesura/api.ErrTwice", "caesura/api.ErrOrder", "caesura/api.ErrLost", "caesura/api.ErrCycle", "caesura/api.ErrSum", "caesura/api.ErrForm", "caesura/api.ErrEnd"], plainKeys := false, apart := false, laid := [("caesura/api.ErrArg", laid_caesura_api_ErrArg), ("caesura/api.ErrText", laid_caesura_api_ErrText), ("caesura/api.ErrMany", laid_caesura_api_ErrMany), ("caesura/api.ErrShort", laid_caesura_api_ErrShort), ("caesura/api.ErrTwice", laid_caesura_api_ErrTwice), ("caesura/api.ErrLost", laid_caesura_api_ErrLost), ("caesura/api.ErrOrder", laid_caesura_api_ErrOrder), ("caesura/api.ErrCycle", laid_caesura_api_ErrCycle), ("caesura/api.ErrSum", laid_caesura_api_ErrSum), ("caesura/api.ErrForm", laid_caesura_api_ErrForm), ("caesura/api.ErrEnd", laid_caesura_api_ErrEnd)], narrowed := true }
def PlacesReadsUptoSaid : Prop := placesReadsUptoRow.holds Tryd.pinned (OpenSpec.upto placesReadsSpec)

/-- 'caesuralaw11.PlacesTurn', WHERE WHAT IT READS IS OF BULK AT MOST 1048576: true; the input reads as it did. -/
def placesTurnUptoRow : OpenClaim := { program := "ytfonajakaimnoaadoor", sum := "fda687684a5d77559d7848cd66a19802a61cdb1a9eac66faf07a7a1c131c69c6", func := "caesura/caesuralaw11.PlacesTurn", spec := "placesTurn", unfollowed := true, recurses := true, named := ["caesura/api.ErrMany", "caesura/api.ErrArg"], plainKeys := false, apart := false, laid := [("caesura/api.ErrArg", laid_caesura_api_ErrArg), ("caesura/api.ErrMany", laid_caesura_api_ErrMany)], narrowed := true }
def PlacesTurnUptoSaid : Prop := placesTurnUptoRow.holds Tryd.pinned (OpenSpec.upto placesTurnSpec)

/-- 'caesuralaw14.PairReads', WHERE WHAT IT READS IS OF BULK AT MOST 1048576: true; the input reads as it did. -/
def pairReadsUptoRow : OpenClaim := { program := "ytfonajakaimnoaadoor", sum := "fda687684a5d77559d7848cd66a19802a61cdb1a9eac66faf07a7a1c131c69c6", func := "caesura/caesuralaw14.PairReads", spec := "pairReads", unfollowed := true, recurses := true, named := ["caesura/api.ErrArg", "caesura/api.ErrText", "caesura/api.ErrMany", "caesura/api.ErrShort", "caesura/api.ErrTwice", "caesura/api.ErrOrder", "caesura/api.ErrLost", "caesura/api.ErrCycle", "caesura/api.ErrSum", "caesura/api.ErrForm", "caesura/api.ErrEnd"], plainKeys := false, apart := false, laid := [("caesura/api.ErrArg", laid_caesura_api_ErrArg), ("caesura/api.ErrText", laid_caesura_api_ErrText), ("caesura/api.ErrMany", laid_caesura_api_ErrMany), ("caesura/api.ErrShort", laid_caesura_api_ErrShort), ("caesura/api.ErrTwice", laid_caesura_api_ErrTwice), ("caesura/api.ErrLost", laid_caesura_api_ErrLost), ("caesura/api.ErrOrder", laid_caesura_api_ErrOrder), ("caesura/api.ErrCycle", laid_caesura_api_ErrCycle), ("caesura/api.ErrSum", laid_caesura_api_ErrSum), ("caesura/api.ErrForm", laid_caesura_api_ErrForm), ("caesura/api.ErrEnd", laid_caesura_api_ErrEnd)], narrowed := true }
def PairReadsUptoSaid : Prop := pairReadsUptoRow.holds Tryd.pinned (OpenSpec.upto pairReadsSpec)

/-- 'caesuralaw13.MinimalOf', WHERE WHAT IT READS IS OF BULK AT MOST 1048576: true; the input reads as it did. -/
def minimalOfUptoRow : OpenClaim := { program := "ytfonajakaimnoaadoor", sum := "fda687684a5d77559d7848cd66a19802a61cdb1a9eac66faf07a7a1c131c69c6", func := "caesura/caesuralaw13.MinimalOf", spec := "minimalOf", inPlace := ["internal/abi.NoEscape"], unfollowed := true, recurses := true, named := ["caesura/api.ErrArg", "internal/strconv.uint64pow10", "math/bits.deBruijn32tab", "math/bits.deBruijn64tab", "caesura/api.ErrText", "caesura/api.ErrMany", "caesura/api.ErrShort", "caesura/api.ErrTwice", "caesura/api.ErrOrder", "caesura/api.ErrLost", "caesura/api.ErrCycle", "caesura/api.ErrSum", "caesura/api.ErrForm", "caesura/api.ErrEnd"], plainKeys := false, apart := false, laid := [("math/bits.deBruijn32tab", laid_math_bits_deBruijn32tab), ("math/bits.deBruijn64tab", laid_math_bits_deBruijn64tab), ("internal/strconv.uint64pow10", laid_internal_strconv_uint64pow10), ("caesura/api.ErrArg", laid_caesura_api_ErrArg), ("caesura/api.ErrText", laid_caesura_api_ErrText), ("caesura/api.ErrMany", laid_caesura_api_ErrMany), ("caesura/api.ErrShort", laid_caesura_api_ErrShort), ("caesura/api.ErrTwice", laid_caesura_api_ErrTwice), ("caesura/api.ErrLost", laid_caesura_api_ErrLost), ("caesura/api.ErrOrder", laid_caesura_api_ErrOrder), ("caesura/api.ErrCycle", laid_caesura_api_ErrCycle), ("caesura/api.ErrSum", laid_caesura_api_ErrSum), ("caesura/api.ErrForm", laid_caesura_api_ErrForm), ("caesura/api.ErrEnd", laid_caesura_api_ErrEnd)], narrowed := true }
def MinimalOfUptoSaid : Prop := minimalOfUptoRow.holds Tryd.pinned (OpenSpec.upto minimalOfSpec)

/-- 'caesuralaw13.MinimalSays', WHERE WHAT IT READS IS OF BULK AT MOST 1048576: true; the input reads as it did. -/
def minimalSaysUptoRow : OpenClaim := { program := "ytfonajakaimnoaadoor", sum := "fda687684a5d77559d7848cd66a19802a61cdb1a9eac66faf07a7a1c131c69c6", func := "caesura/caesuralaw13.MinimalSays", spec := "minimalSays", inPlace := ["internal/abi.NoEscape"], unfollowed := true, recurses := true, named := ["caesura/api.ErrArg", "internal/strconv.uint64pow10", "math/bits.deBruijn32tab", "math/bits.deBruijn64tab", "caesura/api.ErrText", "caesura/api.ErrMany", "caesura/api.ErrShort", "caesura/api.ErrTwice", "caesura/api.ErrOrder", "caesura/api.ErrLost", "caesura/api.ErrCycle", "caesura/api.ErrSum", "caesura/api.ErrForm", "caesura/api.ErrEnd"], plainKeys := false, apart := false, laid := [("math/bits.deBruijn32tab", laid_math_bits_deBruijn32tab), ("math/bits.deBruijn64tab", laid_math_bits_deBruijn64tab), ("internal/strconv.uint64pow10", laid_internal_strconv_uint64pow10), ("caesura/api.ErrArg", laid_caesura_api_ErrArg), ("caesura/api.ErrText", laid_caesura_api_ErrText), ("caesura/api.ErrMany", laid_caesura_api_ErrMany), ("caesura/api.ErrShort", laid_caesura_api_ErrShort), ("caesura/api.ErrTwice", laid_caesura_api_ErrTwice), ("caesura/api.ErrLost", laid_caesura_api_ErrLost), ("caesura/api.ErrOrder", laid_caesura_api_ErrOrder), ("caesura/api.ErrCycle", laid_caesura_api_ErrCycle), ("caesura/api.ErrSum", laid_caesura_api_ErrSum), ("caesura/api.ErrForm", laid_caesura_api_ErrForm), ("caesura/api.ErrEnd", laid_caesura_api_ErrEnd)], narrowed := true }
def MinimalSaysUptoSaid : Prop := minimalSaysUptoRow.holds Tryd.pinned (OpenSpec.upto minimalSaysSpec)

/-- 'caesuralaw13.MinimalNew', WHERE WHAT IT READS IS OF BULK AT MOST 1048576: true; the input reads as it did. -/
def minimalNewUptoRow : OpenClaim := { program := "ytfonajakaimnoaadoor", sum := "fda687684a5d77559d7848cd66a19802a61cdb1a9eac66faf07a7a1c131c69c6", func := "caesura/caesuralaw13.MinimalNew", spec := "minimalNew", inPlace := ["internal/abi.NoEscape"], unfollowed := true, recurses := true, named := ["caesura/api.ErrArg", "internal/strconv.uint64pow10", "math/bits.deBruijn32tab", "math/bits.deBruijn64tab"], plainKeys := false, apart := false, laid := [("math/bits.deBruijn32tab", laid_math_bits_deBruijn32tab), ("math/bits.deBruijn64tab", laid_math_bits_deBruijn64tab), ("internal/strconv.uint64pow10", laid_internal_strconv_uint64pow10), ("caesura/api.ErrArg", laid_caesura_api_ErrArg)], narrowed := true }
def MinimalNewUptoSaid : Prop := minimalNewUptoRow.holds Tryd.pinned (OpenSpec.upto minimalNewSpec)

/-- 'caesuralaw13.MinimalLeast', WHERE WHAT IT READS IS OF BULK AT MOST 1048576: true; the input reads as it did. -/
def minimalLeastUptoRow : OpenClaim := { program := "ytfonajakaimnoaadoor", sum := "fda687684a5d77559d7848cd66a19802a61cdb1a9eac66faf07a7a1c131c69c6", func := "caesura/caesuralaw13.MinimalLeast", spec := "minimalLeast", inPlace := ["internal/abi.NoEscape"], unfollowed := true, recurses := true, named := ["caesura/api.ErrArg", "internal/strconv.uint64pow10", "math/bits.deBruijn32tab", "math/bits.deBruijn64tab"], plainKeys := false, apart := false, laid := [("math/bits.deBruijn32tab", laid_math_bits_deBruijn32tab), ("math/bits.deBruijn64tab", laid_math_bits_deBruijn64tab), ("internal/strconv.uint64pow10", laid_internal_strconv_uint64pow10), ("caesura/api.ErrArg", laid_caesura_api_ErrArg)], narrowed := true }
def MinimalLeastUptoSaid : Prop := minimalLeastUptoRow.holds Tryd.pinned (OpenSpec.upto minimalLeastSpec)

/-- 'caesuralaw13.MinimalOne', WHERE WHAT IT READS IS OF BULK AT MOST 1048576: true; the input reads as it did. -/
def minimalOneUptoRow : OpenClaim := { program := "ytfonajakaimnoaadoor", sum := "fda687684a5d77559d7848cd66a19802a61cdb1a9eac66faf07a7a1c131c69c6", func := "caesura/caesuralaw13.MinimalOne", spec := "minimalOne", inPlace := ["internal/abi.NoEscape"], unfollowed := true, recurses := true, named := ["caesura/api.ErrArg", "internal/strconv.uint64pow10", "math/bits.deBruijn32tab", "math/bits.deBruijn64tab"], plainKeys := false, apart := false, laid := [("math/bits.deBruijn32tab", laid_math_bits_deBruijn32tab), ("math/bits.deBruijn64tab", laid_math_bits_deBruijn64tab), ("internal/strconv.uint64pow10", laid_internal_strconv_uint64pow10), ("caesura/api.ErrArg", laid_caesura_api_ErrArg)], narrowed := true }
def MinimalOneUptoSaid : Prop := minimalOneUptoRow.holds Tryd.pinned (OpenSpec.upto minimalOneSpec)

end Rows
end Go.Proofs.YtfonajakaimnoaaDoor
