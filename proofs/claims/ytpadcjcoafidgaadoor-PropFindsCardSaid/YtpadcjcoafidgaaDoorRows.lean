/-
  NARROWER THAN 'FOR EVERY INPUT', by the rows' own cells (each row's printed sentence says how): PropAll: laid · PropFinds: laid · PropParts: laid · PropForms: laid.
  DERIVED. THE GIVEN ROWS OF THIS SEAT. 4 by the template 'for every input the law returns true; each argument reads behind the call as it read before'; 0 by the template 'total and deterministic' (their statements: YtpadcjcoafidgaaDoorTotals.lean).
  GIVEN WITH THE SEED: the statements are not yours to turn. If you find one false, say at which input.
  Laid BY PROGRAM, IN A SANDBOX (cutbox-rows.mjs): the forced cells as the released guide's own fill.sh prints them over the translation 39f665d351329356… (all of the seat's roots in one cut). By AI agents, Wed Nov 11 2026. No macro, syntax, notation, axiom, sorry.
-/
import Derived.Test.YtpadcjcoafidgaaDoorChecked
import GoSem.PinnedTables
import GoSem.Claim
import GoSem.ClaimJoined
import GoSem.ClaimMapViews
import Derived.JoinedTies
import Derived.KernelRfl
namespace Go.Proofs.YtpadcjcoafidgaaDoor
/- THE CELL 'sum', in the pinned program and in every row, IS THE sha256 OF THE DUMP (.gsa) THAT YtpadcjcoafidgaaDoorProg.lean LOADS. Nothing in Lean hashes anything: it is a label: what it is worth is what the hold of that sum in a sandbox is worth. -/
noncomputable def Tryd.pinned : Pinned := { name := "ytpadcjcoafidgaadoor", sum := "39f665d351329356aa9826cf1ea06d3578161f818d6ed4f4bb253250e754de5e", checked := Tryd.checked }
namespace Rows
def none {H : Type} : Left H := { results := [], args := [] }

/- WHAT THE LISTED PACKAGE-LEVEL VARIABLES READ AS WHEN THE CALL BEGINS. Each datum BY PROGRAM (the guide's laid-datum.mjs) off the statement by which the dump's own 'gosem.cut.vars' lays the variable. In a bare row this is a premise. The card (YtpadcjcoafidgaaDoorCards.lean) ties it to the program's text. -/
def laid_gouache_prop_shorts {H : Type} : DataW H := .agg [.agg [.lit (.string [98, 111, 114, 100, 101, 114, 45, 99, 111, 108, 111, 114]), .lit (.string [98, 111, 114, 100, 101, 114, 45, 116, 111, 112, 45, 99, 111, 108, 111, 114]), .lit (.string [98, 111, 114, 100, 101, 114, 45, 108, 101, 102, 116, 45, 99, 111, 108, 111, 114])], .agg [.lit (.string [98, 111, 114, 100, 101, 114, 45, 115, 116, 121, 108, 101]), .lit (.string [98, 111, 114, 100, 101, 114, 45, 116, 111, 112, 45, 115, 116, 121, 108, 101]), .lit (.string [98, 111, 114, 100, 101, 114, 45, 108, 101, 102, 116, 45, 115, 116, 121, 108, 101])], .agg [.lit (.string [98, 111, 114, 100, 101, 114, 45, 119, 105, 100, 116, 104]), .lit (.string [98, 111, 114, 100, 101, 114, 45, 116, 111, 112, 45, 119, 105, 100, 116, 104]), .lit (.string [98, 111, 114, 100, 101, 114, 45, 108, 101, 102, 116, 45, 119, 105, 100, 116, 104])], .agg [.lit (.string [109, 97, 114, 103, 105, 110]), .lit (.string [109, 97, 114, 103, 105, 110, 45, 116, 111, 112]), .lit (.string [109, 97, 114, 103, 105, 110, 45, 108, 101, 102, 116])], .agg [.lit (.string [111, 118, 101, 114, 102, 108, 111, 119]), .lit (.string [111, 118, 101, 114, 102, 108, 111, 119, 45, 120]), .lit (.string [111, 118, 101, 114, 102, 108, 111, 119, 45, 121])], .agg [.lit (.string [112, 97, 100, 100, 105, 110, 103]), .lit (.string [112, 97, 100, 100, 105, 110, 103, 45, 116, 111, 112]), .lit (.string [112, 97, 100, 100, 105, 110, 103, 45, 108, 101, 102, 116])]]
def laid_unicode_utf8_acceptRanges {H : Type} : DataW H := .agg [.agg [.lit (.int .u8 128), .lit (.int .u8 191)], .agg [.lit (.int .u8 160), .lit (.int .u8 191)], .agg [.lit (.int .u8 128), .lit (.int .u8 159)], .agg [.lit (.int .u8 144), .lit (.int .u8 191)], .agg [.lit (.int .u8 128), .lit (.int .u8 143)], .agg [.lit (.int .u8 0), .lit (.int .u8 0)], .agg [.lit (.int .u8 0), .lit (.int .u8 0)], .agg [.lit (.int .u8 0), .lit (.int .u8 0)], .agg [.lit (.int .u8 0), .lit (.int .u8 0)], .agg [.lit (.int .u8 0), .lit (.int .u8 0)], .agg [.lit (.int .u8 0), .lit (.int .u8 0)], .agg [.lit (.int .u8 0), .lit (.int .u8 0)], .agg [.lit (.int .u8 0), .lit (.int .u8 0)], .agg [.lit (.int .u8 0), .lit (.int .u8 0)], .agg [.lit (.int .u8 0), .lit (.int .u8 0)], .agg [.lit (.int .u8 0), .lit (.int .u8 0)]]
/-- One of Go's own tables, pinned by name: the form's constant. -/
def laid_unicode_utf8_first : DataW Unit := Go.Pinned.utf8First

/-- 'gouachelaw14.PropAll': WHATEVER THE INPUT: true; the input reads as it did. -/
def propAllSpec : ChangeSpec := { name := "propAll", fn := fun _ => fun
  | [d1, d2] => { results := [.lit (.bool true)], args := [d1, d2] }
  | _ => none }
def propAllRow : OpenClaim := { program := "ytpadcjcoafidgaadoor", sum := "39f665d351329356aa9826cf1ea06d3578161f818d6ed4f4bb253250e754de5e", func := "gouache/gouachelaw14.PropAll", spec := "propAll", unfollowed := true, recurses := true, named := ["gouache/prop.shorts"], apart := false, laid := [("gouache/prop.shorts", laid_gouache_prop_shorts)] }
def PropAllSaid : Prop := propAllRow.holds Tryd.pinned (OpenSpec.ofChange propAllSpec)

/-- ITS FALSE NEIGHBOUR: 'it returns false'. Refute it at one input. -/
def propAllWrong : ChangeSpec := { name := "propAll", fn := fun _ => fun
  | [d1, d2] => { results := [.lit (.bool false)], args := [d1, d2] }
  | _ => none }
def PropAllWrongFalsely : Prop := propAllRow.holds Tryd.pinned (OpenSpec.ofChange propAllWrong)

/-- 'gouachelaw14.PropFinds': WHATEVER THE INPUT: true; the input reads as it did. -/
def propFindsSpec : ChangeSpec := { name := "propFinds", fn := fun _ => fun
  | [d] => { results := [.lit (.bool true)], args := [d] }
  | _ => none }
def propFindsRow : OpenClaim := { program := "ytpadcjcoafidgaadoor", sum := "39f665d351329356aa9826cf1ea06d3578161f818d6ed4f4bb253250e754de5e", func := "gouache/gouachelaw14.PropFinds", spec := "propFinds", inPlace := ["internal/bytealg.IndexByteString", "internal/bytealg.IndexString"], unfollowed := true, recurses := true, named := ["gouache/prop.shorts", "unicode/utf8.first", "unicode/utf8.acceptRanges", "internal/bytealg.MaxLen"], apart := false, laid := [("unicode/utf8.acceptRanges", laid_unicode_utf8_acceptRanges), ("gouache/prop.shorts", laid_gouache_prop_shorts), ("unicode/utf8.first", laid_unicode_utf8_first)] }
def PropFindsSaid : Prop := propFindsRow.holds Tryd.pinned (OpenSpec.ofChange propFindsSpec)

/-- ITS FALSE NEIGHBOUR: 'it returns false'. Refute it at one input. -/
def propFindsWrong : ChangeSpec := { name := "propFinds", fn := fun _ => fun
  | [d] => { results := [.lit (.bool false)], args := [d] }
  | _ => none }
def PropFindsWrongFalsely : Prop := propFindsRow.holds Tryd.pinned (OpenSpec.ofChange propFindsWrong)

/-- 'gouachelaw14.PropParts': WHATEVER THE INPUT: true; the input reads as it did. -/
def propPartsSpec : ChangeSpec := { name := "propParts", fn := fun _ => fun
  | [d] => { results := [.lit (.bool true)], args := [d] }
  | _ => none }
def propPartsRow : OpenClaim := { program := "ytpadcjcoafidgaadoor", sum := "39f665d351329356aa9826cf1ea06d3578161f818d6ed4f4bb253250e754de5e", func := "gouache/gouachelaw14.PropParts", spec := "propParts", inPlace := ["internal/bytealg.IndexByteString", "internal/bytealg.IndexString"], unfollowed := true, recurses := true, named := ["gouache/prop.shorts", "unicode/utf8.first", "unicode/utf8.acceptRanges", "internal/bytealg.MaxLen"], apart := false, laid := [("unicode/utf8.acceptRanges", laid_unicode_utf8_acceptRanges), ("gouache/prop.shorts", laid_gouache_prop_shorts), ("unicode/utf8.first", laid_unicode_utf8_first)] }
def PropPartsSaid : Prop := propPartsRow.holds Tryd.pinned (OpenSpec.ofChange propPartsSpec)

/-- ITS FALSE NEIGHBOUR: 'it returns false'. Refute it at one input. -/
def propPartsWrong : ChangeSpec := { name := "propParts", fn := fun _ => fun
  | [d] => { results := [.lit (.bool false)], args := [d] }
  | _ => none }
def PropPartsWrongFalsely : Prop := propPartsRow.holds Tryd.pinned (OpenSpec.ofChange propPartsWrong)

/-- 'gouachelaw14.PropForms': WHATEVER THE INPUT: true; the input reads as it did. -/
def propFormsSpec : ChangeSpec := { name := "propForms", fn := fun _ => fun
  | [d1, d2] => { results := [.lit (.bool true)], args := [d1, d2] }
  | _ => none }
def propFormsRow : OpenClaim := { program := "ytpadcjcoafidgaadoor", sum := "39f665d351329356aa9826cf1ea06d3578161f818d6ed4f4bb253250e754de5e", func := "gouache/gouachelaw14.PropForms", spec := "propForms", inPlace := ["internal/bytealg.IndexByteString", "internal/bytealg.IndexString"], unfollowed := true, recurses := true, named := ["gouache/prop.shorts", "unicode/utf8.first", "unicode/utf8.acceptRanges", "internal/bytealg.MaxLen"], apart := false, laid := [("unicode/utf8.acceptRanges", laid_unicode_utf8_acceptRanges), ("gouache/prop.shorts", laid_gouache_prop_shorts), ("unicode/utf8.first", laid_unicode_utf8_first)] }
def PropFormsSaid : Prop := propFormsRow.holds Tryd.pinned (OpenSpec.ofChange propFormsSpec)

/-- ITS FALSE NEIGHBOUR: 'it returns false'. Refute it at one input. -/
def propFormsWrong : ChangeSpec := { name := "propForms", fn := fun _ => fun
  | [d1, d2] => { results := [.lit (.bool false)], args := [d1, d2] }
  | _ => none }
def PropFormsWrongFalsely : Prop := propFormsRow.holds Tryd.pinned (OpenSpec.ofChange propFormsWrong)

/- THE SECOND FORM. 'bulk': how many values and letters a reading holds, each counted each time it is reached (what is shared counts as often as it is met; a slice's spare places count too). A statement '..UptoSaid' is the law's where the arguments, and the package variables that the reading takes, are together of bulk at most 1048576: NARROWER than '..Said'. Prove '..Said' where nothing that the law and all that it calls make is longer than what came in: it says more and counts as full. Else prove '..UptoSaid'. A law counts once. -/
mutual
def uptoBulk {H : Type} : DataW H → Nat
  | .lit (.string bytes) => bytes.length + 1
  | .lit _ => 1
  | .nil => 1
  | .ptr d => uptoBulk d + 1
  | .slice elems spare => uptoBulkAll elems + uptoBulkAll spare + 1
  | .agg parts => uptoBulkAll parts + 1
  | .iface _ d => uptoBulk d + 1
  | .map entries => uptoBulkEntries entries + 1
  | .held _ => 1
def uptoBulkAll {H : Type} : List (DataW H) → Nat
  | [] => 0
  | d :: r => uptoBulk d + uptoBulkAll r
def uptoBulkEntries {H : Type} : List (Lit × DataW H) → Nat
  | [] => 0
  | x :: r => uptoBulkEntry x + uptoBulkEntries r
def uptoBulkEntry {H : Type} : Lit × DataW H → Nat
  | (.string bytes, d) => bytes.length + uptoBulk d + 1
  | (_, d) => uptoBulk d + 1
 end
def uptoSmall : (H : Type) → List (DataW H) → Bool := fun _ ds => decide (uptoBulkAll ds ≤ 1048576)
def OpenSpec.upto (s : _root_.Go.ChangeSpec) : _root_.Go.OpenSpec := { _root_.Go.OpenSpec.ofChange s with cond := some uptoSmall }

/-- 'gouachelaw14.PropAll', WHERE WHAT IT READS IS OF BULK AT MOST 1048576: true; the input reads as it did. -/
def propAllUptoRow : OpenClaim := { program := "ytpadcjcoafidgaadoor", sum := "39f665d351329356aa9826cf1ea06d3578161f818d6ed4f4bb253250e754de5e", func := "gouache/gouachelaw14.PropAll", spec := "propAll", unfollowed := true, recurses := true, named := ["gouache/prop.shorts"], apart := false, laid := [("gouache/prop.shorts", laid_gouache_prop_shorts)], narrowed := true }
def PropAllUptoSaid : Prop := propAllUptoRow.holds Tryd.pinned (OpenSpec.upto propAllSpec)

/-- 'gouachelaw14.PropFinds', WHERE WHAT IT READS IS OF BULK AT MOST 1048576: true; the input reads as it did. -/
def propFindsUptoRow : OpenClaim := { program := "ytpadcjcoafidgaadoor", sum := "39f665d351329356aa9826cf1ea06d3578161f818d6ed4f4bb253250e754de5e", func := "gouache/gouachelaw14.PropFinds", spec := "propFinds", inPlace := ["internal/bytealg.IndexByteString", "internal/bytealg.IndexString"], unfollowed := true, recurses := true, named := ["gouache/prop.shorts", "unicode/utf8.first", "unicode/utf8.acceptRanges", "internal/bytealg.MaxLen"], apart := false, laid := [("unicode/utf8.acceptRanges", laid_unicode_utf8_acceptRanges), ("gouache/prop.shorts", laid_gouache_prop_shorts), ("unicode/utf8.first", laid_unicode_utf8_first)], narrowed := true }
def PropFindsUptoSaid : Prop := propFindsUptoRow.holds Tryd.pinned (OpenSpec.upto propFindsSpec)

/-- 'gouachelaw14.PropParts', WHERE WHAT IT READS IS OF BULK AT MOST 1048576: true; the input reads as it did. -/
def propPartsUptoRow : OpenClaim := { program := "ytpadcjcoafidgaadoor", sum := "39f665d351329356aa9826cf1ea06d3578161f818d6ed4f4bb253250e754de5e", func := "gouache/gouachelaw14.PropParts", spec := "propParts", inPlace := ["internal/bytealg.IndexByteString", "internal/bytealg.IndexString"], unfollowed := true, recurses := true, named := ["gouache/prop.shorts", "unicode/utf8.first", "unicode/utf8.acceptRanges", "internal/bytealg.MaxLen"], apart := false, laid := [("unicode/utf8.acceptRanges", laid_unicode_utf8_acceptRanges), ("gouache/prop.shorts", laid_gouache_prop_shorts), ("unicode/utf8.first", laid_unicode_utf8_first)], narrowed := true }
def PropPartsUptoSaid : Prop := propPartsUptoRow.holds Tryd.pinned (OpenSpec.upto propPartsSpec)

/-- 'gouachelaw14.PropForms', WHERE WHAT IT READS IS OF BULK AT MOST 1048576: true; the input reads as it did. -/
def propFormsUptoRow : OpenClaim := { program := "ytpadcjcoafidgaadoor", sum := "39f665d351329356aa9826cf1ea06d3578161f818d6ed4f4bb253250e754de5e", func := "gouache/gouachelaw14.PropForms", spec := "propForms", inPlace := ["internal/bytealg.IndexByteString", "internal/bytealg.IndexString"], unfollowed := true, recurses := true, named := ["gouache/prop.shorts", "unicode/utf8.first", "unicode/utf8.acceptRanges", "internal/bytealg.MaxLen"], apart := false, laid := [("unicode/utf8.acceptRanges", laid_unicode_utf8_acceptRanges), ("gouache/prop.shorts", laid_gouache_prop_shorts), ("unicode/utf8.first", laid_unicode_utf8_first)], narrowed := true }
def PropFormsUptoSaid : Prop := propFormsUptoRow.holds Tryd.pinned (OpenSpec.upto propFormsSpec)

end Rows
end Go.Proofs.YtpadcjcoafidgaaDoor
