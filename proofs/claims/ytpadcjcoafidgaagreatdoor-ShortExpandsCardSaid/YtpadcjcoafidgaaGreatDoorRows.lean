/-
  NARROWER THAN 'FOR EVERY INPUT', by the rows' own cells (each row's printed sentence says how): ValueColors: loops, laid · ValueInitial: laid · ShortJoins: laid · ShortBack: loops, laid · ShortSides: laid · ValueBack: loops, laid · ShortExpands: loops, laid · ShortWide: laid.
  DERIVED. THE GIVEN ROWS OF THIS SEAT. 8 by the template 'for every input the law returns true; each argument reads behind the call as it read before'; 0 by the template 'total and deterministic' (their statements: YtpadcjcoafidgaaGreatDoorTotals.lean).
  GIVEN WITH THE SEED: the statements are not yours to turn. If you find one false, say at which input.
  Laid BY PROGRAM, IN A SANDBOX (cutbox-rows.mjs): the forced cells as the released guide's own fill.sh prints them over the translation 020519cc655df5f5… (all of the seat's roots in one cut). By AI agents, Wed Nov 11 2026. No macro, syntax, notation, axiom, sorry.
-/
import Derived.Test.YtpadcjcoafidgaaGreatDoorChecked
import GoSem.PinnedTables
import GoSem.Claim
import GoSem.ClaimJoined
import GoSem.ClaimMapViews
import Derived.JoinedTies
import Derived.KernelRfl
namespace Go.Proofs.YtpadcjcoafidgaaGreatDoor
/- THE CELL 'sum', in the pinned program and in every row, IS THE sha256 OF THE DUMP (.gsa) THAT YtpadcjcoafidgaaGreatDoorProg.lean LOADS. Nothing in Lean hashes anything: it is a label: what it is worth is what the hold of that sum in a sandbox is worth. -/
noncomputable def Tryz.pinned : Pinned := { name := "ytpadcjcoafidgaagreatdoor", sum := "020519cc655df5f5ddce6cb10f0d3d9d58c0954ae7e9c498861ea959f780bf5f", checked := Tryz.checked }
namespace Rows
def none {H : Type} : Left H := { results := [], args := [] }

/- WHAT THE LISTED PACKAGE-LEVEL VARIABLES READ AS WHEN THE CALL BEGINS. Each datum BY PROGRAM (the guide's laid-datum.mjs) off the statement by which the dump's own 'gosem.cut.vars' lays the variable. In a bare row this is a premise. The card (YtpadcjcoafidgaaGreatDoorCards.lean) ties it to the program's text. -/
def laid_math_bits_deBruijn32tab {H : Type} : DataW H := .agg [.lit (.int .u8 0), .lit (.int .u8 1), .lit (.int .u8 28), .lit (.int .u8 2), .lit (.int .u8 29), .lit (.int .u8 14), .lit (.int .u8 24), .lit (.int .u8 3), .lit (.int .u8 30), .lit (.int .u8 22), .lit (.int .u8 20), .lit (.int .u8 15), .lit (.int .u8 25), .lit (.int .u8 17), .lit (.int .u8 4), .lit (.int .u8 8), .lit (.int .u8 31), .lit (.int .u8 27), .lit (.int .u8 13), .lit (.int .u8 23), .lit (.int .u8 21), .lit (.int .u8 19), .lit (.int .u8 16), .lit (.int .u8 7), .lit (.int .u8 26), .lit (.int .u8 12), .lit (.int .u8 18), .lit (.int .u8 6), .lit (.int .u8 11), .lit (.int .u8 5), .lit (.int .u8 10), .lit (.int .u8 9)]
def laid_math_bits_deBruijn64tab {H : Type} : DataW H := .agg [.lit (.int .u8 0), .lit (.int .u8 1), .lit (.int .u8 56), .lit (.int .u8 2), .lit (.int .u8 57), .lit (.int .u8 49), .lit (.int .u8 28), .lit (.int .u8 3), .lit (.int .u8 61), .lit (.int .u8 58), .lit (.int .u8 42), .lit (.int .u8 50), .lit (.int .u8 38), .lit (.int .u8 29), .lit (.int .u8 17), .lit (.int .u8 4), .lit (.int .u8 62), .lit (.int .u8 47), .lit (.int .u8 59), .lit (.int .u8 36), .lit (.int .u8 45), .lit (.int .u8 43), .lit (.int .u8 51), .lit (.int .u8 22), .lit (.int .u8 53), .lit (.int .u8 39), .lit (.int .u8 33), .lit (.int .u8 30), .lit (.int .u8 24), .lit (.int .u8 18), .lit (.int .u8 12), .lit (.int .u8 5), .lit (.int .u8 63), .lit (.int .u8 55), .lit (.int .u8 48), .lit (.int .u8 27), .lit (.int .u8 60), .lit (.int .u8 41), .lit (.int .u8 37), .lit (.int .u8 16), .lit (.int .u8 46), .lit (.int .u8 35), .lit (.int .u8 44), .lit (.int .u8 21), .lit (.int .u8 52), .lit (.int .u8 32), .lit (.int .u8 23), .lit (.int .u8 11), .lit (.int .u8 54), .lit (.int .u8 26), .lit (.int .u8 40), .lit (.int .u8 15), .lit (.int .u8 34), .lit (.int .u8 20), .lit (.int .u8 31), .lit (.int .u8 10), .lit (.int .u8 25), .lit (.int .u8 14), .lit (.int .u8 19), .lit (.int .u8 9), .lit (.int .u8 13), .lit (.int .u8 8), .lit (.int .u8 7), .lit (.int .u8 6)]
def laid_internal_strconv_uint64pow10 {H : Type} : DataW H := .agg [.lit (.int .u64 1), .lit (.int .u64 10), .lit (.int .u64 100), .lit (.int .u64 1000), .lit (.int .u64 10000), .lit (.int .u64 100000), .lit (.int .u64 1000000), .lit (.int .u64 10000000), .lit (.int .u64 100000000), .lit (.int .u64 1000000000), .lit (.int .u64 10000000000), .lit (.int .u64 100000000000), .lit (.int .u64 1000000000000), .lit (.int .u64 10000000000000), .lit (.int .u64 100000000000000), .lit (.int .u64 1000000000000000), .lit (.int .u64 10000000000000000), .lit (.int .u64 100000000000000000), .lit (.int .u64 1000000000000000000), .lit (.int .u64 10000000000000000000)]
def laid_unicode_utf8_acceptRanges {H : Type} : DataW H := .agg [.agg [.lit (.int .u8 128), .lit (.int .u8 191)], .agg [.lit (.int .u8 160), .lit (.int .u8 191)], .agg [.lit (.int .u8 128), .lit (.int .u8 159)], .agg [.lit (.int .u8 144), .lit (.int .u8 191)], .agg [.lit (.int .u8 128), .lit (.int .u8 143)], .agg [.lit (.int .u8 0), .lit (.int .u8 0)], .agg [.lit (.int .u8 0), .lit (.int .u8 0)], .agg [.lit (.int .u8 0), .lit (.int .u8 0)], .agg [.lit (.int .u8 0), .lit (.int .u8 0)], .agg [.lit (.int .u8 0), .lit (.int .u8 0)], .agg [.lit (.int .u8 0), .lit (.int .u8 0)], .agg [.lit (.int .u8 0), .lit (.int .u8 0)], .agg [.lit (.int .u8 0), .lit (.int .u8 0)], .agg [.lit (.int .u8 0), .lit (.int .u8 0)], .agg [.lit (.int .u8 0), .lit (.int .u8 0)], .agg [.lit (.int .u8 0), .lit (.int .u8 0)]]
def laid_gouache_value_colours {H : Type} : DataW H := .agg [.agg [.lit (.string [98, 108, 97, 99, 107]), .lit (.string [35, 48, 48, 48, 48, 48, 48])], .agg [.lit (.string [119, 104, 105, 116, 101]), .lit (.string [35, 102, 102, 102, 102, 102, 102])], .agg [.lit (.string [114, 101, 100]), .lit (.string [35, 102, 102, 48, 48, 48, 48])], .agg [.lit (.string [103, 114, 101, 101, 110]), .lit (.string [35, 48, 48, 56, 48, 48, 48])], .agg [.lit (.string [98, 108, 117, 101]), .lit (.string [35, 48, 48, 48, 48, 102, 102])], .agg [.lit (.string [103, 114, 97, 121]), .lit (.string [35, 56, 48, 56, 48, 56, 48])], .agg [.lit (.string [121, 101, 108, 108, 111, 119]), .lit (.string [35, 102, 102, 102, 102, 48, 48])], .agg [.lit (.string [112, 117, 114, 112, 108, 101]), .lit (.string [35, 56, 48, 48, 48, 56, 48])]]
/-- One of Go's own tables, pinned by name: the form's constant. -/
def laid_unicode_utf8_first : DataW Unit := Go.Pinned.utf8First
def laid_gouache_prop_shorts {H : Type} : DataW H := .agg [.agg [.lit (.string [98, 111, 114, 100, 101, 114, 45, 99, 111, 108, 111, 114]), .lit (.string [98, 111, 114, 100, 101, 114, 45, 116, 111, 112, 45, 99, 111, 108, 111, 114]), .lit (.string [98, 111, 114, 100, 101, 114, 45, 108, 101, 102, 116, 45, 99, 111, 108, 111, 114])], .agg [.lit (.string [98, 111, 114, 100, 101, 114, 45, 115, 116, 121, 108, 101]), .lit (.string [98, 111, 114, 100, 101, 114, 45, 116, 111, 112, 45, 115, 116, 121, 108, 101]), .lit (.string [98, 111, 114, 100, 101, 114, 45, 108, 101, 102, 116, 45, 115, 116, 121, 108, 101])], .agg [.lit (.string [98, 111, 114, 100, 101, 114, 45, 119, 105, 100, 116, 104]), .lit (.string [98, 111, 114, 100, 101, 114, 45, 116, 111, 112, 45, 119, 105, 100, 116, 104]), .lit (.string [98, 111, 114, 100, 101, 114, 45, 108, 101, 102, 116, 45, 119, 105, 100, 116, 104])], .agg [.lit (.string [109, 97, 114, 103, 105, 110]), .lit (.string [109, 97, 114, 103, 105, 110, 45, 116, 111, 112]), .lit (.string [109, 97, 114, 103, 105, 110, 45, 108, 101, 102, 116])], .agg [.lit (.string [111, 118, 101, 114, 102, 108, 111, 119]), .lit (.string [111, 118, 101, 114, 102, 108, 111, 119, 45, 120]), .lit (.string [111, 118, 101, 114, 102, 108, 111, 119, 45, 121])], .agg [.lit (.string [112, 97, 100, 100, 105, 110, 103]), .lit (.string [112, 97, 100, 100, 105, 110, 103, 45, 116, 111, 112]), .lit (.string [112, 97, 100, 100, 105, 110, 103, 45, 108, 101, 102, 116])]]
def laid_gouache_short_sides {H : Type} : DataW H := .agg [.agg [.lit (.int .i64 0), .lit (.int .i64 0), .lit (.int .i64 0), .lit (.int .i64 0)], .agg [.lit (.int .i64 0), .lit (.int .i64 1), .lit (.int .i64 0), .lit (.int .i64 1)], .agg [.lit (.int .i64 0), .lit (.int .i64 1), .lit (.int .i64 2), .lit (.int .i64 1)], .agg [.lit (.int .i64 0), .lit (.int .i64 1), .lit (.int .i64 2), .lit (.int .i64 3)]]

/-- 'gouachelaw15.ValueColors': WHATEVER THE INPUT: true; the input reads as it did. -/
def valueColorsSpec : ChangeSpec := { name := "valueColors", fn := fun _ => fun
  | [d1, d2] => { results := [.lit (.bool true)], args := [d1, d2] }
  | _ => none }
def valueColorsRow : OpenClaim := { program := "ytpadcjcoafidgaagreatdoor", sum := "020519cc655df5f5ddce6cb10f0d3d9d58c0954ae7e9c498861ea959f780bf5f", func := "gouache/gouachelaw15.ValueColors", spec := "valueColors", inPlace := ["internal/abi.NoEscape", "internal/bytealg.IndexByteString", "internal/bytealg.IndexString", "internal/bytealg.MakeNoZero"], unfollowed := true, recurses := true, named := ["unicode/utf8.first", "unicode/utf8.acceptRanges", "internal/bytealg.MaxLen", "internal/strconv.uint64pow10", "math/bits.deBruijn32tab", "math/bits.deBruijn64tab", "gouache/value.colours"], loops := true, apart := false, laid := [("math/bits.deBruijn32tab", laid_math_bits_deBruijn32tab), ("math/bits.deBruijn64tab", laid_math_bits_deBruijn64tab), ("internal/strconv.uint64pow10", laid_internal_strconv_uint64pow10), ("unicode/utf8.acceptRanges", laid_unicode_utf8_acceptRanges), ("gouache/value.colours", laid_gouache_value_colours), ("unicode/utf8.first", laid_unicode_utf8_first)] }
def ValueColorsSaid : Prop := valueColorsRow.holds Tryz.pinned (OpenSpec.ofChange valueColorsSpec)

/-- ITS FALSE NEIGHBOUR: 'it returns false'. Refute it at one input. -/
def valueColorsWrong : ChangeSpec := { name := "valueColors", fn := fun _ => fun
  | [d1, d2] => { results := [.lit (.bool false)], args := [d1, d2] }
  | _ => none }
def ValueColorsWrongFalsely : Prop := valueColorsRow.holds Tryz.pinned (OpenSpec.ofChange valueColorsWrong)

/-- 'gouachelaw15.ValueInitial': WHATEVER THE INPUT: true; the input reads as it did. -/
def valueInitialSpec : ChangeSpec := { name := "valueInitial", fn := fun _ => fun
  | [d] => { results := [.lit (.bool true)], args := [d] }
  | _ => none }
def valueInitialRow : OpenClaim := { program := "ytpadcjcoafidgaagreatdoor", sum := "020519cc655df5f5ddce6cb10f0d3d9d58c0954ae7e9c498861ea959f780bf5f", func := "gouache/gouachelaw15.ValueInitial", spec := "valueInitial", inPlace := ["internal/abi.NoEscape", "internal/bytealg.IndexByteString", "internal/bytealg.IndexString", "internal/bytealg.MakeNoZero"], unfollowed := true, recurses := true, named := ["unicode/utf8.first", "unicode/utf8.acceptRanges", "internal/bytealg.MaxLen", "internal/strconv.uint64pow10", "math/bits.deBruijn32tab", "math/bits.deBruijn64tab", "gouache/value.colours"], apart := false, laid := [("math/bits.deBruijn32tab", laid_math_bits_deBruijn32tab), ("math/bits.deBruijn64tab", laid_math_bits_deBruijn64tab), ("internal/strconv.uint64pow10", laid_internal_strconv_uint64pow10), ("unicode/utf8.acceptRanges", laid_unicode_utf8_acceptRanges), ("gouache/value.colours", laid_gouache_value_colours), ("unicode/utf8.first", laid_unicode_utf8_first)] }
def ValueInitialSaid : Prop := valueInitialRow.holds Tryz.pinned (OpenSpec.ofChange valueInitialSpec)

/-- ITS FALSE NEIGHBOUR: 'it returns false'. Refute it at one input. -/
def valueInitialWrong : ChangeSpec := { name := "valueInitial", fn := fun _ => fun
  | [d] => { results := [.lit (.bool false)], args := [d] }
  | _ => none }
def ValueInitialWrongFalsely : Prop := valueInitialRow.holds Tryz.pinned (OpenSpec.ofChange valueInitialWrong)

/-- 'gouachelaw16.ShortJoins': WHATEVER THE INPUT: true; the input reads as it did. -/
def shortJoinsSpec : ChangeSpec := { name := "shortJoins", fn := fun _ => fun
  | [d1, d2, d3] => { results := [.lit (.bool true)], args := [d1, d2, d3] }
  | _ => none }
def shortJoinsRow : OpenClaim := { program := "ytpadcjcoafidgaagreatdoor", sum := "020519cc655df5f5ddce6cb10f0d3d9d58c0954ae7e9c498861ea959f780bf5f", func := "gouache/gouachelaw16.ShortJoins", spec := "shortJoins", inPlace := ["internal/abi.NoEscape", "internal/bytealg.IndexByteString", "internal/bytealg.IndexString", "internal/bytealg.MakeNoZero"], unfollowed := true, recurses := true, named := ["unicode/utf8.first", "unicode/utf8.acceptRanges", "internal/bytealg.MaxLen", "internal/strconv.uint64pow10", "math/bits.deBruijn32tab", "math/bits.deBruijn64tab", "gouache/value.colours", "gouache/prop.shorts", "gouache/short.sides"], apart := false, laid := [("math/bits.deBruijn32tab", laid_math_bits_deBruijn32tab), ("math/bits.deBruijn64tab", laid_math_bits_deBruijn64tab), ("internal/strconv.uint64pow10", laid_internal_strconv_uint64pow10), ("unicode/utf8.acceptRanges", laid_unicode_utf8_acceptRanges), ("gouache/prop.shorts", laid_gouache_prop_shorts), ("gouache/value.colours", laid_gouache_value_colours), ("gouache/short.sides", laid_gouache_short_sides), ("unicode/utf8.first", laid_unicode_utf8_first)] }
def ShortJoinsSaid : Prop := shortJoinsRow.holds Tryz.pinned (OpenSpec.ofChange shortJoinsSpec)

/-- ITS FALSE NEIGHBOUR: 'it returns false'. Refute it at one input. -/
def shortJoinsWrong : ChangeSpec := { name := "shortJoins", fn := fun _ => fun
  | [d1, d2, d3] => { results := [.lit (.bool false)], args := [d1, d2, d3] }
  | _ => none }
def ShortJoinsWrongFalsely : Prop := shortJoinsRow.holds Tryz.pinned (OpenSpec.ofChange shortJoinsWrong)

/-- 'gouachelaw16.ShortBack': WHATEVER THE INPUT: true; the input reads as it did. -/
def shortBackSpec : ChangeSpec := { name := "shortBack", fn := fun _ => fun
  | [d] => { results := [.lit (.bool true)], args := [d] }
  | _ => none }
def shortBackRow : OpenClaim := { program := "ytpadcjcoafidgaagreatdoor", sum := "020519cc655df5f5ddce6cb10f0d3d9d58c0954ae7e9c498861ea959f780bf5f", func := "gouache/gouachelaw16.ShortBack", spec := "shortBack", inPlace := ["internal/abi.NoEscape", "internal/bytealg.IndexByteString", "internal/bytealg.IndexString", "internal/bytealg.MakeNoZero"], unfollowed := true, recurses := true, named := ["unicode/utf8.first", "unicode/utf8.acceptRanges", "internal/bytealg.MaxLen", "internal/strconv.uint64pow10", "math/bits.deBruijn32tab", "math/bits.deBruijn64tab", "gouache/value.colours", "gouache/prop.shorts", "gouache/short.sides"], loops := true, apart := false, laid := [("math/bits.deBruijn32tab", laid_math_bits_deBruijn32tab), ("math/bits.deBruijn64tab", laid_math_bits_deBruijn64tab), ("internal/strconv.uint64pow10", laid_internal_strconv_uint64pow10), ("unicode/utf8.acceptRanges", laid_unicode_utf8_acceptRanges), ("gouache/prop.shorts", laid_gouache_prop_shorts), ("gouache/value.colours", laid_gouache_value_colours), ("gouache/short.sides", laid_gouache_short_sides), ("unicode/utf8.first", laid_unicode_utf8_first)] }
def ShortBackSaid : Prop := shortBackRow.holds Tryz.pinned (OpenSpec.ofChange shortBackSpec)

/-- ITS FALSE NEIGHBOUR: 'it returns false'. Refute it at one input. -/
def shortBackWrong : ChangeSpec := { name := "shortBack", fn := fun _ => fun
  | [d] => { results := [.lit (.bool false)], args := [d] }
  | _ => none }
def ShortBackWrongFalsely : Prop := shortBackRow.holds Tryz.pinned (OpenSpec.ofChange shortBackWrong)

/-- 'gouachelaw16.ShortSides': WHATEVER THE INPUT: true; the input reads as it did. -/
def shortSidesSpec : ChangeSpec := { name := "shortSides", fn := fun _ => fun
  | [d1, d2, d3] => { results := [.lit (.bool true)], args := [d1, d2, d3] }
  | _ => none }
def shortSidesRow : OpenClaim := { program := "ytpadcjcoafidgaagreatdoor", sum := "020519cc655df5f5ddce6cb10f0d3d9d58c0954ae7e9c498861ea959f780bf5f", func := "gouache/gouachelaw16.ShortSides", spec := "shortSides", inPlace := ["internal/abi.NoEscape", "internal/bytealg.IndexByteString", "internal/bytealg.IndexString", "internal/bytealg.MakeNoZero"], unfollowed := true, recurses := true, named := ["unicode/utf8.first", "unicode/utf8.acceptRanges", "internal/bytealg.MaxLen", "internal/strconv.uint64pow10", "math/bits.deBruijn32tab", "math/bits.deBruijn64tab", "gouache/value.colours", "gouache/prop.shorts", "gouache/short.sides"], apart := false, laid := [("math/bits.deBruijn32tab", laid_math_bits_deBruijn32tab), ("math/bits.deBruijn64tab", laid_math_bits_deBruijn64tab), ("internal/strconv.uint64pow10", laid_internal_strconv_uint64pow10), ("unicode/utf8.acceptRanges", laid_unicode_utf8_acceptRanges), ("gouache/prop.shorts", laid_gouache_prop_shorts), ("gouache/value.colours", laid_gouache_value_colours), ("gouache/short.sides", laid_gouache_short_sides), ("unicode/utf8.first", laid_unicode_utf8_first)] }
def ShortSidesSaid : Prop := shortSidesRow.holds Tryz.pinned (OpenSpec.ofChange shortSidesSpec)

/-- ITS FALSE NEIGHBOUR: 'it returns false'. Refute it at one input. -/
def shortSidesWrong : ChangeSpec := { name := "shortSides", fn := fun _ => fun
  | [d1, d2, d3] => { results := [.lit (.bool false)], args := [d1, d2, d3] }
  | _ => none }
def ShortSidesWrongFalsely : Prop := shortSidesRow.holds Tryz.pinned (OpenSpec.ofChange shortSidesWrong)

/-- 'gouachelaw15.ValueBack': WHATEVER THE INPUT: true; the input reads as it did. -/
def valueBackSpec : ChangeSpec := { name := "valueBack", fn := fun _ => fun
  | [d1, d2, d3] => { results := [.lit (.bool true)], args := [d1, d2, d3] }
  | _ => none }
def valueBackRow : OpenClaim := { program := "ytpadcjcoafidgaagreatdoor", sum := "020519cc655df5f5ddce6cb10f0d3d9d58c0954ae7e9c498861ea959f780bf5f", func := "gouache/gouachelaw15.ValueBack", spec := "valueBack", inPlace := ["internal/abi.NoEscape", "internal/bytealg.IndexByteString", "internal/bytealg.IndexString", "internal/bytealg.MakeNoZero"], unfollowed := true, recurses := true, named := ["unicode/utf8.first", "unicode/utf8.acceptRanges", "internal/bytealg.MaxLen", "internal/strconv.uint64pow10", "math/bits.deBruijn32tab", "math/bits.deBruijn64tab", "gouache/value.colours"], loops := true, apart := false, laid := [("math/bits.deBruijn32tab", laid_math_bits_deBruijn32tab), ("math/bits.deBruijn64tab", laid_math_bits_deBruijn64tab), ("internal/strconv.uint64pow10", laid_internal_strconv_uint64pow10), ("unicode/utf8.acceptRanges", laid_unicode_utf8_acceptRanges), ("gouache/value.colours", laid_gouache_value_colours), ("unicode/utf8.first", laid_unicode_utf8_first)] }
def ValueBackSaid : Prop := valueBackRow.holds Tryz.pinned (OpenSpec.ofChange valueBackSpec)

/-- ITS FALSE NEIGHBOUR: 'it returns false'. Refute it at one input. -/
def valueBackWrong : ChangeSpec := { name := "valueBack", fn := fun _ => fun
  | [d1, d2, d3] => { results := [.lit (.bool false)], args := [d1, d2, d3] }
  | _ => none }
def ValueBackWrongFalsely : Prop := valueBackRow.holds Tryz.pinned (OpenSpec.ofChange valueBackWrong)

/-- 'gouachelaw16.ShortExpands': WHATEVER THE INPUT: true; the input reads as it did. -/
def shortExpandsSpec : ChangeSpec := { name := "shortExpands", fn := fun _ => fun
  | [d] => { results := [.lit (.bool true)], args := [d] }
  | _ => none }
def shortExpandsRow : OpenClaim := { program := "ytpadcjcoafidgaagreatdoor", sum := "020519cc655df5f5ddce6cb10f0d3d9d58c0954ae7e9c498861ea959f780bf5f", func := "gouache/gouachelaw16.ShortExpands", spec := "shortExpands", inPlace := ["internal/abi.NoEscape", "internal/bytealg.IndexByteString", "internal/bytealg.IndexString", "internal/bytealg.MakeNoZero"], unfollowed := true, recurses := true, named := ["unicode/utf8.first", "unicode/utf8.acceptRanges", "internal/bytealg.MaxLen", "internal/strconv.uint64pow10", "math/bits.deBruijn32tab", "math/bits.deBruijn64tab", "gouache/value.colours", "gouache/prop.shorts", "gouache/short.sides"], loops := true, apart := false, laid := [("math/bits.deBruijn32tab", laid_math_bits_deBruijn32tab), ("math/bits.deBruijn64tab", laid_math_bits_deBruijn64tab), ("internal/strconv.uint64pow10", laid_internal_strconv_uint64pow10), ("unicode/utf8.acceptRanges", laid_unicode_utf8_acceptRanges), ("gouache/prop.shorts", laid_gouache_prop_shorts), ("gouache/value.colours", laid_gouache_value_colours), ("gouache/short.sides", laid_gouache_short_sides), ("unicode/utf8.first", laid_unicode_utf8_first)] }
def ShortExpandsSaid : Prop := shortExpandsRow.holds Tryz.pinned (OpenSpec.ofChange shortExpandsSpec)

/-- ITS FALSE NEIGHBOUR: 'it returns false'. Refute it at one input. -/
def shortExpandsWrong : ChangeSpec := { name := "shortExpands", fn := fun _ => fun
  | [d] => { results := [.lit (.bool false)], args := [d] }
  | _ => none }
def ShortExpandsWrongFalsely : Prop := shortExpandsRow.holds Tryz.pinned (OpenSpec.ofChange shortExpandsWrong)

/-- 'gouachelaw16.ShortWide': WHATEVER THE INPUT: true; the input reads as it did. -/
def shortWideSpec : ChangeSpec := { name := "shortWide", fn := fun _ => fun
  | [d1, d2] => { results := [.lit (.bool true)], args := [d1, d2] }
  | _ => none }
def shortWideRow : OpenClaim := { program := "ytpadcjcoafidgaagreatdoor", sum := "020519cc655df5f5ddce6cb10f0d3d9d58c0954ae7e9c498861ea959f780bf5f", func := "gouache/gouachelaw16.ShortWide", spec := "shortWide", inPlace := ["internal/abi.NoEscape", "internal/bytealg.IndexByteString", "internal/bytealg.IndexString", "internal/bytealg.MakeNoZero"], unfollowed := true, recurses := true, named := ["gouache/prop.shorts", "unicode/utf8.first", "unicode/utf8.acceptRanges", "internal/bytealg.MaxLen", "internal/strconv.uint64pow10", "math/bits.deBruijn32tab", "math/bits.deBruijn64tab", "gouache/value.colours", "gouache/short.sides"], apart := false, laid := [("math/bits.deBruijn32tab", laid_math_bits_deBruijn32tab), ("math/bits.deBruijn64tab", laid_math_bits_deBruijn64tab), ("internal/strconv.uint64pow10", laid_internal_strconv_uint64pow10), ("unicode/utf8.acceptRanges", laid_unicode_utf8_acceptRanges), ("gouache/prop.shorts", laid_gouache_prop_shorts), ("gouache/value.colours", laid_gouache_value_colours), ("gouache/short.sides", laid_gouache_short_sides), ("unicode/utf8.first", laid_unicode_utf8_first)] }
def ShortWideSaid : Prop := shortWideRow.holds Tryz.pinned (OpenSpec.ofChange shortWideSpec)

/-- ITS FALSE NEIGHBOUR: 'it returns false'. Refute it at one input. -/
def shortWideWrong : ChangeSpec := { name := "shortWide", fn := fun _ => fun
  | [d1, d2] => { results := [.lit (.bool false)], args := [d1, d2] }
  | _ => none }
def ShortWideWrongFalsely : Prop := shortWideRow.holds Tryz.pinned (OpenSpec.ofChange shortWideWrong)

/- THE SECOND FORM. 'bulk': how many values and letters a reading holds, each counted each time it is reached (what is shared counts as often as it is met; a slice's spare places count too). A statement '..UptoSaid' is the law's where the arguments, and the package variables that the reading takes, are together of bulk at most 1048576: NARROWER than '..Said'. Prove '..Said' where nothing that the law and all that it calls make is longer than what came in: it says more and counts as full. Else prove '..UptoSaid'. A law counts once. -/
mutual
def uptoBulk {H : Type} : DataW H → Nat
  | .lit (.string bytes) => bytes.length + 1
  | .lit _ => 1
  | .nil => 1
  | .ptr d => uptoBulk d + 1
  | .slice elems spare => uptoBulkAll elems + uptoBulkAll spare + 1
  | .agg parts => uptoBulkAll parts + 1
  | .iface _ d => uptoBulk d + 1
  | .map entries => uptoBulkEntries entries + 1
  | .held _ => 1
def uptoBulkAll {H : Type} : List (DataW H) → Nat
  | [] => 0
  | d :: r => uptoBulk d + uptoBulkAll r
def uptoBulkEntries {H : Type} : List (Lit × DataW H) → Nat
  | [] => 0
  | x :: r => uptoBulkEntry x + uptoBulkEntries r
def uptoBulkEntry {H : Type} : Lit × DataW H → Nat
  | (.string bytes, d) => bytes.length + uptoBulk d + 1
  | (_, d) => uptoBulk d + 1
 end
def uptoSmall : (H : Type) → List (DataW H) → Bool := fun _ ds => decide (uptoBulkAll ds ≤ 1048576)
def OpenSpec.upto (s : _root_.Go.ChangeSpec) : _root_.Go.OpenSpec := { _root_.Go.OpenSpec.ofChange s with cond := some uptoSmall }

/-- 'gouachelaw15.ValueColors', WHERE WHAT IT READS IS OF BULK AT MOST 1048576: true; the input reads as it did. -/
def valueColorsUptoRow : OpenClaim := { program := "ytpadcjcoafidgaagreatdoor", sum := "020519cc655df5f5ddce6cb10f0d3d9d58c0954ae7e9c498861ea959f780bf5f", func := "gouache/gouachelaw15.ValueColors", spec := "valueColors", inPlace := ["internal/abi.NoEscape", "internal/bytealg.IndexByteString", "internal/bytealg.IndexString", "internal/bytealg.MakeNoZero"], unfollowed := true, recurses := true, named := ["unicode/utf8.first", "unicode/utf8.acceptRanges", "internal/bytealg.MaxLen", "internal/strconv.uint64pow10", "math/bits.deBruijn32tab", "math/bits.deBruijn64tab", "gouache/value.colours"], loops := true, apart := false, laid := [("math/bits.deBruijn32tab", laid_math_bits_deBruijn32tab), ("math/bits.deBruijn64tab", laid_math_bits_deBruijn64tab), ("internal/strconv.uint64pow10", laid_internal_strconv_uint64pow10), ("unicode/utf8.acceptRanges", laid_unicode_utf8_acceptRanges), ("gouache/value.colours", laid_gouache_value_colours), ("unicode/utf8.first", laid_unicode_utf8_first)], narrowed := true }
def ValueColorsUptoSaid : Prop := valueColorsUptoRow.holds Tryz.pinned (OpenSpec.upto valueColorsSpec)

/-- 'gouachelaw15.ValueInitial', WHERE WHAT IT READS IS OF BULK AT MOST 1048576: true; the input reads as it did. -/
def valueInitialUptoRow : OpenClaim := { program := "ytpadcjcoafidgaagreatdoor", sum := "020519cc655df5f5ddce6cb10f0d3d9d58c0954ae7e9c498861ea959f780bf5f", func := "gouache/gouachelaw15.ValueInitial", spec := "valueInitial", inPlace := ["internal/abi.NoEscape", "internal/bytealg.IndexByteString", "internal/bytealg.IndexString", "internal/bytealg.MakeNoZero"], unfollowed := true, recurses := true, named := ["unicode/utf8.first", "unicode/utf8.acceptRanges", "internal/bytealg.MaxLen", "internal/strconv.uint64pow10", "math/bits.deBruijn32tab", "math/bits.deBruijn64tab", "gouache/value.colours"], apart := false, laid := [("math/bits.deBruijn32tab", laid_math_bits_deBruijn32tab), ("math/bits.deBruijn64tab", laid_math_bits_deBruijn64tab), ("internal/strconv.uint64pow10", laid_internal_strconv_uint64pow10), ("unicode/utf8.acceptRanges", laid_unicode_utf8_acceptRanges), ("gouache/value.colours", laid_gouache_value_colours), ("unicode/utf8.first", laid_unicode_utf8_first)], narrowed := true }
def ValueInitialUptoSaid : Prop := valueInitialUptoRow.holds Tryz.pinned (OpenSpec.upto valueInitialSpec)

/-- 'gouachelaw16.ShortJoins', WHERE WHAT IT READS IS OF BULK AT MOST 1048576: true; the input reads as it did. -/
def shortJoinsUptoRow : OpenClaim := { program := "ytpadcjcoafidgaagreatdoor", sum := "020519cc655df5f5ddce6cb10f0d3d9d58c0954ae7e9c498861ea959f780bf5f", func := "gouache/gouachelaw16.ShortJoins", spec := "shortJoins", inPlace := ["internal/abi.NoEscape", "internal/bytealg.IndexByteString", "internal/bytealg.IndexString", "internal/bytealg.MakeNoZero"], unfollowed := true, recurses := true, named := ["unicode/utf8.first", "unicode/utf8.acceptRanges", "internal/bytealg.MaxLen", "internal/strconv.uint64pow10", "math/bits.deBruijn32tab", "math/bits.deBruijn64tab", "gouache/value.colours", "gouache/prop.shorts", "gouache/short.sides"], apart := false, laid := [("math/bits.deBruijn32tab", laid_math_bits_deBruijn32tab), ("math/bits.deBruijn64tab", laid_math_bits_deBruijn64tab), ("internal/strconv.uint64pow10", laid_internal_strconv_uint64pow10), ("unicode/utf8.acceptRanges", laid_unicode_utf8_acceptRanges), ("gouache/prop.shorts", laid_gouache_prop_shorts), ("gouache/value.colours", laid_gouache_value_colours), ("gouache/short.sides", laid_gouache_short_sides), ("unicode/utf8.first", laid_unicode_utf8_first)], narrowed := true }
def ShortJoinsUptoSaid : Prop := shortJoinsUptoRow.holds Tryz.pinned (OpenSpec.upto shortJoinsSpec)

/-- 'gouachelaw16.ShortBack', WHERE WHAT IT READS IS OF BULK AT MOST 1048576: true; the input reads as it did. -/
def shortBackUptoRow : OpenClaim := { program := "ytpadcjcoafidgaagreatdoor", sum := "020519cc655df5f5ddce6cb10f0d3d9d58c0954ae7e9c498861ea959f780bf5f", func := "gouache/gouachelaw16.ShortBack", spec := "shortBack", inPlace := ["internal/abi.NoEscape", "internal/bytealg.IndexByteString", "internal/bytealg.IndexString", "internal/bytealg.MakeNoZero"], unfollowed := true, recurses := true, named := ["unicode/utf8.first", "unicode/utf8.acceptRanges", "internal/bytealg.MaxLen", "internal/strconv.uint64pow10", "math/bits.deBruijn32tab", "math/bits.deBruijn64tab", "gouache/value.colours", "gouache/prop.shorts", "gouache/short.sides"], loops := true, apart := false, laid := [("math/bits.deBruijn32tab", laid_math_bits_deBruijn32tab), ("math/bits.deBruijn64tab", laid_math_bits_deBruijn64tab), ("internal/strconv.uint64pow10", laid_internal_strconv_uint64pow10), ("unicode/utf8.acceptRanges", laid_unicode_utf8_acceptRanges), ("gouache/prop.shorts", laid_gouache_prop_shorts), ("gouache/value.colours", laid_gouache_value_colours), ("gouache/short.sides", laid_gouache_short_sides), ("unicode/utf8.first", laid_unicode_utf8_first)], narrowed := true }
def ShortBackUptoSaid : Prop := shortBackUptoRow.holds Tryz.pinned (OpenSpec.upto shortBackSpec)

/-- 'gouachelaw16.ShortSides', WHERE WHAT IT READS IS OF BULK AT MOST 1048576: true; the input reads as it did. -/
def shortSidesUptoRow : OpenClaim := { program := "ytpadcjcoafidgaagreatdoor", sum := "020519cc655df5f5ddce6cb10f0d3d9d58c0954ae7e9c498861ea959f780bf5f", func := "gouache/gouachelaw16.ShortSides", spec := "shortSides", inPlace := ["internal/abi.NoEscape", "internal/bytealg.IndexByteString", "internal/bytealg.IndexString", "internal/bytealg.MakeNoZero"], unfollowed := true, recurses := true, named := ["unicode/utf8.first", "unicode/utf8.acceptRanges", "internal/bytealg.MaxLen", "internal/strconv.uint64pow10", "math/bits.deBruijn32tab", "math/bits.deBruijn64tab", "gouache/value.colours", "gouache/prop.shorts", "gouache/short.sides"], apart := false, laid := [("math/bits.deBruijn32tab", laid_math_bits_deBruijn32tab), ("math/bits.deBruijn64tab", laid_math_bits_deBruijn64tab), ("internal/strconv.uint64pow10", laid_internal_strconv_uint64pow10), ("unicode/utf8.acceptRanges", laid_unicode_utf8_acceptRanges), ("gouache/prop.shorts", laid_gouache_prop_shorts), ("gouache/value.colours", laid_gouache_value_colours), ("gouache/short.sides", laid_gouache_short_sides), ("unicode/utf8.first", laid_unicode_utf8_first)], narrowed := true }
def ShortSidesUptoSaid : Prop := shortSidesUptoRow.holds Tryz.pinned (OpenSpec.upto shortSidesSpec)

/-- 'gouachelaw15.ValueBack', WHERE WHAT IT READS IS OF BULK AT MOST 1048576: true; the input reads as it did. -/
def valueBackUptoRow : OpenClaim := { program := "ytpadcjcoafidgaagreatdoor", sum := "020519cc655df5f5ddce6cb10f0d3d9d58c0954ae7e9c498861ea959f780bf5f", func := "gouache/gouachelaw15.ValueBack", spec := "valueBack", inPlace := ["internal/abi.NoEscape", "internal/bytealg.IndexByteString", "internal/bytealg.IndexString", "internal/bytealg.MakeNoZero"], unfollowed := true, recurses := true, named := ["unicode/utf8.first", "unicode/utf8.acceptRanges", "internal/bytealg.MaxLen", "internal/strconv.uint64pow10", "math/bits.deBruijn32tab", "math/bits.deBruijn64tab", "gouache/value.colours"], loops := true, apart := false, laid := [("math/bits.deBruijn32tab", laid_math_bits_deBruijn32tab), ("math/bits.deBruijn64tab", laid_math_bits_deBruijn64tab), ("internal/strconv.uint64pow10", laid_internal_strconv_uint64pow10), ("unicode/utf8.acceptRanges", laid_unicode_utf8_acceptRanges), ("gouache/value.colours", laid_gouache_value_colours), ("unicode/utf8.first", laid_unicode_utf8_first)], narrowed := true }
def ValueBackUptoSaid : Prop := valueBackUptoRow.holds Tryz.pinned (OpenSpec.upto valueBackSpec)

/-- 'gouachelaw16.ShortExpands', WHERE WHAT IT READS IS OF BULK AT MOST 1048576: true; the input reads as it did. -/
def shortExpandsUptoRow : OpenClaim := { program := "ytpadcjcoafidgaagreatdoor", sum := "020519cc655df5f5ddce6cb10f0d3d9d58c0954ae7e9c498861ea959f780bf5f", func := "gouache/gouachelaw16.ShortExpands", spec := "shortExpands", inPlace := ["internal/abi.NoEscape", "internal/bytealg.IndexByteString", "internal/bytealg.IndexString", "internal/bytealg.MakeNoZero"], unfollowed := true, recurses := true, named := ["unicode/utf8.first", "unicode/utf8.acceptRanges", "internal/bytealg.MaxLen", "internal/strconv.uint64pow10", "math/bits.deBruijn32tab", "math/bits.deBruijn64tab", "gouache/value.colours", "gouache/prop.shorts", "gouache/short.sides"], loops := true, apart := false, laid := [("math/bits.deBruijn32tab", laid_math_bits_deBruijn32tab), ("math/bits.deBruijn64tab", laid_math_bits_deBruijn64tab), ("internal/strconv.uint64pow10", laid_internal_strconv_uint64pow10), ("unicode/utf8.acceptRanges", laid_unicode_utf8_acceptRanges), ("gouache/prop.shorts", laid_gouache_prop_shorts), ("gouache/value.colours", laid_gouache_value_colours), ("gouache/short.sides", laid_gouache_short_sides), ("unicode/utf8.first", laid_unicode_utf8_first)], narrowed := true }
def ShortExpandsUptoSaid : Prop := shortExpandsUptoRow.holds Tryz.pinned (OpenSpec.upto shortExpandsSpec)

/-- 'gouachelaw16.ShortWide', WHERE WHAT IT READS IS OF BULK AT MOST 1048576: true; the input reads as it did. -/
def shortWideUptoRow : OpenClaim := { program := "ytpadcjcoafidgaagreatdoor", sum := "020519cc655df5f5ddce6cb10f0d3d9d58c0954ae7e9c498861ea959f780bf5f", func := "gouache/gouachelaw16.ShortWide", spec := "shortWide", inPlace := ["internal/abi.NoEscape", "internal/bytealg.IndexByteString", "internal/bytealg.IndexString", "internal/bytealg.MakeNoZero"], unfollowed := true, recurses := true, named := ["gouache/prop.shorts", "unicode/utf8.first", "unicode/utf8.acceptRanges", "internal/bytealg.MaxLen", "internal/strconv.uint64pow10", "math/bits.deBruijn32tab", "math/bits.deBruijn64tab", "gouache/value.colours", "gouache/short.sides"], apart := false, laid := [("math/bits.deBruijn32tab", laid_math_bits_deBruijn32tab), ("math/bits.deBruijn64tab", laid_math_bits_deBruijn64tab), ("internal/strconv.uint64pow10", laid_internal_strconv_uint64pow10), ("unicode/utf8.acceptRanges", laid_unicode_utf8_acceptRanges), ("gouache/prop.shorts", laid_gouache_prop_shorts), ("gouache/value.colours", laid_gouache_value_colours), ("gouache/short.sides", laid_gouache_short_sides), ("unicode/utf8.first", laid_unicode_utf8_first)], narrowed := true }
def ShortWideUptoSaid : Prop := shortWideUptoRow.holds Tryz.pinned (OpenSpec.upto shortWideSpec)

end Rows
end Go.Proofs.YtpadcjcoafidgaaGreatDoor
