/-
  No cell of these rows narrows 'for every input' (looked for: loops, veiled, ifaces, maps, wideKeys, modest, calm, conditions, laid).
  DERIVED. THE GIVEN ROWS OF THIS SEAT. 21 by the template 'for every input the law returns true; each argument reads behind the call as it read before'; 0 by the template 'total and deterministic' (their statements: YtonfmnohmigjpaaTotals.lean).
  GIVEN WITH THE SEED: the statements are not yours to turn. If you find one false, say at which input.
  Laid BY PROGRAM, IN A SANDBOX (cutbox-rows.mjs): the forced cells as the released guide's own fill.sh prints them over the translation 8e9daca27c37efc9… (all of the seat's roots in one cut). By AI agents, Wed Nov 11 2026. No macro, syntax, notation, axiom, sorry.
-/
import Derived.Test.YtonfmnohmigjpaaChecked
import GoSem.Claim
import GoSem.ClaimJoined
import GoSem.ClaimMapViews
import Derived.JoinedTies
import Derived.KernelRfl
namespace Go.Proofs.Ytonfmnohmigjpaa
/- THE CELL 'sum', in the pinned program and in every row, IS THE sha256 OF THE DUMP (.gsa) THAT YtonfmnohmigjpaaProg.lean LOADS. Nothing in Lean hashes anything: it is a label: what it is worth is what the hold of that sum in a sandbox is worth. -/
noncomputable def Try.pinned : Pinned := { name := "ytonfmnohmigjpaa", sum := "8e9daca27c37efc9a02e6ef5d0deceb12d1a7235b30382727b538768862abaa3", checked := Try.checked }
namespace Rows
def none {H : Type} : Left H := { results := [], args := [] }

/-- 'regletlaw02.ScanBares': WHATEVER THE INPUT: true; the input reads as it did. -/
def scanBaresSpec : ChangeSpec := { name := "scanBares", fn := fun _ => fun
  | [d] => { results := [.lit (.bool true)], args := [d] }
  | _ => none }
def scanBaresRow : OpenClaim := { program := "ytonfmnohmigjpaa", sum := "8e9daca27c37efc9a02e6ef5d0deceb12d1a7235b30382727b538768862abaa3", func := "reglet/regletlaw02.ScanBares", spec := "scanBares", apart := false }
def ScanBaresSaid : Prop := scanBaresRow.holds Try.pinned (OpenSpec.ofChange scanBaresSpec)

/-- ITS FALSE NEIGHBOUR: 'it returns false'. Refute it at one input. -/
def scanBaresWrong : ChangeSpec := { name := "scanBares", fn := fun _ => fun
  | [d] => { results := [.lit (.bool false)], args := [d] }
  | _ => none }
def ScanBaresWrongFalsely : Prop := scanBaresRow.holds Try.pinned (OpenSpec.ofChange scanBaresWrong)

/-- 'regletlaw03.LinesDepths': WHATEVER THE INPUT: true; the input reads as it did. -/
def linesDepthsSpec : ChangeSpec := { name := "linesDepths", fn := fun _ => fun
  | [d] => { results := [.lit (.bool true)], args := [d] }
  | _ => none }
def linesDepthsRow : OpenClaim := { program := "ytonfmnohmigjpaa", sum := "8e9daca27c37efc9a02e6ef5d0deceb12d1a7235b30382727b538768862abaa3", func := "reglet/regletlaw03.LinesDepths", spec := "linesDepths", apart := false }
def LinesDepthsSaid : Prop := linesDepthsRow.holds Try.pinned (OpenSpec.ofChange linesDepthsSpec)

/-- ITS FALSE NEIGHBOUR: 'it returns false'. Refute it at one input. -/
def linesDepthsWrong : ChangeSpec := { name := "linesDepths", fn := fun _ => fun
  | [d] => { results := [.lit (.bool false)], args := [d] }
  | _ => none }
def LinesDepthsWrongFalsely : Prop := linesDepthsRow.holds Try.pinned (OpenSpec.ofChange linesDepthsWrong)

/-- 'regletlaw01.PhysSpells': WHATEVER THE INPUT: true; the input reads as it did. -/
def physSpellsSpec : ChangeSpec := { name := "physSpells", fn := fun _ => fun
  | [d1, d2] => { results := [.lit (.bool true)], args := [d1, d2] }
  | _ => none }
def physSpellsRow : OpenClaim := { program := "ytonfmnohmigjpaa", sum := "8e9daca27c37efc9a02e6ef5d0deceb12d1a7235b30382727b538768862abaa3", func := "reglet/regletlaw01.PhysSpells", spec := "physSpells", inPlace := ["internal/abi.NoEscape", "internal/bytealg.IndexByteString"], apart := false }
def PhysSpellsSaid : Prop := physSpellsRow.holds Try.pinned (OpenSpec.ofChange physSpellsSpec)

/-- ITS FALSE NEIGHBOUR: 'it returns false'. Refute it at one input. -/
def physSpellsWrong : ChangeSpec := { name := "physSpells", fn := fun _ => fun
  | [d1, d2] => { results := [.lit (.bool false)], args := [d1, d2] }
  | _ => none }
def PhysSpellsWrongFalsely : Prop := physSpellsRow.holds Try.pinned (OpenSpec.ofChange physSpellsWrong)

/-- 'regletlaw03.LinesTells': WHATEVER THE INPUT: true; the input reads as it did. -/
def linesTellsSpec : ChangeSpec := { name := "linesTells", fn := fun _ => fun
  | [d] => { results := [.lit (.bool true)], args := [d] }
  | _ => none }
def linesTellsRow : OpenClaim := { program := "ytonfmnohmigjpaa", sum := "8e9daca27c37efc9a02e6ef5d0deceb12d1a7235b30382727b538768862abaa3", func := "reglet/regletlaw03.LinesTells", spec := "linesTells", unfollowed := true, recurses := true, apart := false }
def LinesTellsSaid : Prop := linesTellsRow.holds Try.pinned (OpenSpec.ofChange linesTellsSpec)

/-- ITS FALSE NEIGHBOUR: 'it returns false'. Refute it at one input. -/
def linesTellsWrong : ChangeSpec := { name := "linesTells", fn := fun _ => fun
  | [d] => { results := [.lit (.bool false)], args := [d] }
  | _ => none }
def LinesTellsWrongFalsely : Prop := linesTellsRow.holds Try.pinned (OpenSpec.ofChange linesTellsWrong)

/-- 'regletlaw01.PhysParts': WHATEVER THE INPUT: true; the input reads as it did. -/
def physPartsSpec : ChangeSpec := { name := "physParts", fn := fun _ => fun
  | [d1, d2] => { results := [.lit (.bool true)], args := [d1, d2] }
  | _ => none }
def physPartsRow : OpenClaim := { program := "ytonfmnohmigjpaa", sum := "8e9daca27c37efc9a02e6ef5d0deceb12d1a7235b30382727b538768862abaa3", func := "reglet/regletlaw01.PhysParts", spec := "physParts", inPlace := ["internal/bytealg.IndexByteString", "internal/abi.NoEscape"], unfollowed := true, recurses := true, apart := false }
def PhysPartsSaid : Prop := physPartsRow.holds Try.pinned (OpenSpec.ofChange physPartsSpec)

/-- ITS FALSE NEIGHBOUR: 'it returns false'. Refute it at one input. -/
def physPartsWrong : ChangeSpec := { name := "physParts", fn := fun _ => fun
  | [d1, d2] => { results := [.lit (.bool false)], args := [d1, d2] }
  | _ => none }
def PhysPartsWrongFalsely : Prop := physPartsRow.holds Try.pinned (OpenSpec.ofChange physPartsWrong)

/-- 'regletlaw01.PhysSplice': WHATEVER THE INPUT: true; the input reads as it did. -/
def physSpliceSpec : ChangeSpec := { name := "physSplice", fn := fun _ => fun
  | [d1, d2] => { results := [.lit (.bool true)], args := [d1, d2] }
  | _ => none }
def physSpliceRow : OpenClaim := { program := "ytonfmnohmigjpaa", sum := "8e9daca27c37efc9a02e6ef5d0deceb12d1a7235b30382727b538768862abaa3", func := "reglet/regletlaw01.PhysSplice", spec := "physSplice", inPlace := ["internal/bytealg.IndexByteString", "internal/abi.NoEscape"], unfollowed := true, recurses := true, apart := false }
def PhysSpliceSaid : Prop := physSpliceRow.holds Try.pinned (OpenSpec.ofChange physSpliceSpec)

/-- ITS FALSE NEIGHBOUR: 'it returns false'. Refute it at one input. -/
def physSpliceWrong : ChangeSpec := { name := "physSplice", fn := fun _ => fun
  | [d1, d2] => { results := [.lit (.bool false)], args := [d1, d2] }
  | _ => none }
def PhysSpliceWrongFalsely : Prop := physSpliceRow.holds Try.pinned (OpenSpec.ofChange physSpliceWrong)

/-- 'regletlaw01.PhysTells': WHATEVER THE INPUT: true; the input reads as it did. -/
def physTellsSpec : ChangeSpec := { name := "physTells", fn := fun _ => fun
  | [d] => { results := [.lit (.bool true)], args := [d] }
  | _ => none }
def physTellsRow : OpenClaim := { program := "ytonfmnohmigjpaa", sum := "8e9daca27c37efc9a02e6ef5d0deceb12d1a7235b30382727b538768862abaa3", func := "reglet/regletlaw01.PhysTells", spec := "physTells", inPlace := ["internal/bytealg.IndexByteString", "internal/abi.NoEscape"], unfollowed := true, recurses := true, apart := false }
def PhysTellsSaid : Prop := physTellsRow.holds Try.pinned (OpenSpec.ofChange physTellsSpec)

/-- ITS FALSE NEIGHBOUR: 'it returns false'. Refute it at one input. -/
def physTellsWrong : ChangeSpec := { name := "physTells", fn := fun _ => fun
  | [d] => { results := [.lit (.bool false)], args := [d] }
  | _ => none }
def PhysTellsWrongFalsely : Prop := physTellsRow.holds Try.pinned (OpenSpec.ofChange physTellsWrong)

/-- 'regletlaw01.PhysCovers': WHATEVER THE INPUT: true; the input reads as it did. -/
def physCoversSpec : ChangeSpec := { name := "physCovers", fn := fun _ => fun
  | [d] => { results := [.lit (.bool true)], args := [d] }
  | _ => none }
def physCoversRow : OpenClaim := { program := "ytonfmnohmigjpaa", sum := "8e9daca27c37efc9a02e6ef5d0deceb12d1a7235b30382727b538768862abaa3", func := "reglet/regletlaw01.PhysCovers", spec := "physCovers", inPlace := ["internal/bytealg.IndexByteString", "internal/abi.NoEscape"], unfollowed := true, recurses := true, apart := false }
def PhysCoversSaid : Prop := physCoversRow.holds Try.pinned (OpenSpec.ofChange physCoversSpec)

/-- ITS FALSE NEIGHBOUR: 'it returns false'. Refute it at one input. -/
def physCoversWrong : ChangeSpec := { name := "physCovers", fn := fun _ => fun
  | [d] => { results := [.lit (.bool false)], args := [d] }
  | _ => none }
def PhysCoversWrongFalsely : Prop := physCoversRow.holds Try.pinned (OpenSpec.ofChange physCoversWrong)

/-- 'regletlaw01.PhysNames': WHATEVER THE INPUT: true; the input reads as it did. -/
def physNamesSpec : ChangeSpec := { name := "physNames", fn := fun _ => fun
  | [] => { results := [.lit (.bool true)], args := [] }
  | _ => none }
def physNamesRow : OpenClaim := { program := "ytonfmnohmigjpaa", sum := "8e9daca27c37efc9a02e6ef5d0deceb12d1a7235b30382727b538768862abaa3", func := "reglet/regletlaw01.PhysNames", spec := "physNames", inPlace := ["internal/bytealg.IndexByteString", "internal/abi.NoEscape"], unfollowed := true, recurses := true, apart := false }
def PhysNamesSaid : Prop := physNamesRow.holds Try.pinned (OpenSpec.ofChange physNamesSpec)

/-- ITS FALSE NEIGHBOUR: 'it returns false'. Refute it at one input. -/
def physNamesWrong : ChangeSpec := { name := "physNames", fn := fun _ => fun
  | [] => { results := [.lit (.bool false)], args := [] }
  | _ => none }
def PhysNamesWrongFalsely : Prop := physNamesRow.holds Try.pinned (OpenSpec.ofChange physNamesWrong)

/-- 'regletlaw01.PhysBack': WHATEVER THE INPUT: true; the input reads as it did. -/
def physBackSpec : ChangeSpec := { name := "physBack", fn := fun _ => fun
  | [d] => { results := [.lit (.bool true)], args := [d] }
  | _ => none }
def physBackRow : OpenClaim := { program := "ytonfmnohmigjpaa", sum := "8e9daca27c37efc9a02e6ef5d0deceb12d1a7235b30382727b538768862abaa3", func := "reglet/regletlaw01.PhysBack", spec := "physBack", inPlace := ["internal/bytealg.IndexByteString", "internal/abi.NoEscape"], unfollowed := true, recurses := true, apart := false }
def PhysBackSaid : Prop := physBackRow.holds Try.pinned (OpenSpec.ofChange physBackSpec)

/-- ITS FALSE NEIGHBOUR: 'it returns false'. Refute it at one input. -/
def physBackWrong : ChangeSpec := { name := "physBack", fn := fun _ => fun
  | [d] => { results := [.lit (.bool false)], args := [d] }
  | _ => none }
def PhysBackWrongFalsely : Prop := physBackRow.holds Try.pinned (OpenSpec.ofChange physBackWrong)

/-- 'regletlaw02.ScanOnes': WHATEVER THE INPUT: true; the input reads as it did. -/
def scanOnesSpec : ChangeSpec := { name := "scanOnes", fn := fun _ => fun
  | [d1, d2] => { results := [.lit (.bool true)], args := [d1, d2] }
  | _ => none }
def scanOnesRow : OpenClaim := { program := "ytonfmnohmigjpaa", sum := "8e9daca27c37efc9a02e6ef5d0deceb12d1a7235b30382727b538768862abaa3", func := "reglet/regletlaw02.ScanOnes", spec := "scanOnes", inPlace := ["internal/bytealg.IndexByteString", "internal/bytealg.IndexString"], unfollowed := true, recurses := true, named := ["internal/bytealg.MaxLen"], apart := false }
def ScanOnesSaid : Prop := scanOnesRow.holds Try.pinned (OpenSpec.ofChange scanOnesSpec)

/-- ITS FALSE NEIGHBOUR: 'it returns false'. Refute it at one input. -/
def scanOnesWrong : ChangeSpec := { name := "scanOnes", fn := fun _ => fun
  | [d1, d2] => { results := [.lit (.bool false)], args := [d1, d2] }
  | _ => none }
def ScanOnesWrongFalsely : Prop := scanOnesRow.holds Try.pinned (OpenSpec.ofChange scanOnesWrong)

/-- 'regletlaw02.ScanCovers': WHATEVER THE INPUT: true; the input reads as it did. -/
def scanCoversSpec : ChangeSpec := { name := "scanCovers", fn := fun _ => fun
  | [d] => { results := [.lit (.bool true)], args := [d] }
  | _ => none }
def scanCoversRow : OpenClaim := { program := "ytonfmnohmigjpaa", sum := "8e9daca27c37efc9a02e6ef5d0deceb12d1a7235b30382727b538768862abaa3", func := "reglet/regletlaw02.ScanCovers", spec := "scanCovers", inPlace := ["internal/bytealg.IndexByteString", "internal/bytealg.IndexString"], unfollowed := true, recurses := true, named := ["internal/bytealg.MaxLen"], apart := false }
def ScanCoversSaid : Prop := scanCoversRow.holds Try.pinned (OpenSpec.ofChange scanCoversSpec)

/-- ITS FALSE NEIGHBOUR: 'it returns false'. Refute it at one input. -/
def scanCoversWrong : ChangeSpec := { name := "scanCovers", fn := fun _ => fun
  | [d] => { results := [.lit (.bool false)], args := [d] }
  | _ => none }
def ScanCoversWrongFalsely : Prop := scanCoversRow.holds Try.pinned (OpenSpec.ofChange scanCoversWrong)

/-- 'regletlaw02.ScanMunch': WHATEVER THE INPUT: true; the input reads as it did. -/
def scanMunchSpec : ChangeSpec := { name := "scanMunch", fn := fun _ => fun
  | [d] => { results := [.lit (.bool true)], args := [d] }
  | _ => none }
def scanMunchRow : OpenClaim := { program := "ytonfmnohmigjpaa", sum := "8e9daca27c37efc9a02e6ef5d0deceb12d1a7235b30382727b538768862abaa3", func := "reglet/regletlaw02.ScanMunch", spec := "scanMunch", inPlace := ["internal/bytealg.IndexByteString", "internal/bytealg.IndexString"], unfollowed := true, recurses := true, named := ["internal/bytealg.MaxLen"], apart := false }
def ScanMunchSaid : Prop := scanMunchRow.holds Try.pinned (OpenSpec.ofChange scanMunchSpec)

/-- ITS FALSE NEIGHBOUR: 'it returns false'. Refute it at one input. -/
def scanMunchWrong : ChangeSpec := { name := "scanMunch", fn := fun _ => fun
  | [d] => { results := [.lit (.bool false)], args := [d] }
  | _ => none }
def ScanMunchWrongFalsely : Prop := scanMunchRow.holds Try.pinned (OpenSpec.ofChange scanMunchWrong)

/-- 'regletlaw02.ScanNames': WHATEVER THE INPUT: true; the input reads as it did. -/
def scanNamesSpec : ChangeSpec := { name := "scanNames", fn := fun _ => fun
  | [] => { results := [.lit (.bool true)], args := [] }
  | _ => none }
def scanNamesRow : OpenClaim := { program := "ytonfmnohmigjpaa", sum := "8e9daca27c37efc9a02e6ef5d0deceb12d1a7235b30382727b538768862abaa3", func := "reglet/regletlaw02.ScanNames", spec := "scanNames", inPlace := ["internal/bytealg.IndexByteString", "internal/bytealg.IndexString"], unfollowed := true, recurses := true, named := ["internal/bytealg.MaxLen"], apart := false }
def ScanNamesSaid : Prop := scanNamesRow.holds Try.pinned (OpenSpec.ofChange scanNamesSpec)

/-- ITS FALSE NEIGHBOUR: 'it returns false'. Refute it at one input. -/
def scanNamesWrong : ChangeSpec := { name := "scanNames", fn := fun _ => fun
  | [] => { results := [.lit (.bool false)], args := [] }
  | _ => none }
def ScanNamesWrongFalsely : Prop := scanNamesRow.holds Try.pinned (OpenSpec.ofChange scanNamesWrong)

/-- 'regletlaw02.ScanSpaces': WHATEVER THE INPUT: true; the input reads as it did. -/
def scanSpacesSpec : ChangeSpec := { name := "scanSpaces", fn := fun _ => fun
  | [d] => { results := [.lit (.bool true)], args := [d] }
  | _ => none }
def scanSpacesRow : OpenClaim := { program := "ytonfmnohmigjpaa", sum := "8e9daca27c37efc9a02e6ef5d0deceb12d1a7235b30382727b538768862abaa3", func := "reglet/regletlaw02.ScanSpaces", spec := "scanSpaces", inPlace := ["internal/bytealg.IndexByteString", "internal/bytealg.IndexString", "internal/abi.NoEscape"], unfollowed := true, recurses := true, named := ["internal/bytealg.MaxLen"], apart := false }
def ScanSpacesSaid : Prop := scanSpacesRow.holds Try.pinned (OpenSpec.ofChange scanSpacesSpec)

/-- ITS FALSE NEIGHBOUR: 'it returns false'. Refute it at one input. -/
def scanSpacesWrong : ChangeSpec := { name := "scanSpaces", fn := fun _ => fun
  | [d] => { results := [.lit (.bool false)], args := [d] }
  | _ => none }
def ScanSpacesWrongFalsely : Prop := scanSpacesRow.holds Try.pinned (OpenSpec.ofChange scanSpacesWrong)

/-- 'regletlaw03.LinesWhole': WHATEVER THE INPUT: true; the input reads as it did. -/
def linesWholeSpec : ChangeSpec := { name := "linesWhole", fn := fun _ => fun
  | [d] => { results := [.lit (.bool true)], args := [d] }
  | _ => none }
def linesWholeRow : OpenClaim := { program := "ytonfmnohmigjpaa", sum := "8e9daca27c37efc9a02e6ef5d0deceb12d1a7235b30382727b538768862abaa3", func := "reglet/regletlaw03.LinesWhole", spec := "linesWhole", inPlace := ["internal/bytealg.IndexByteString", "internal/bytealg.IndexString"], unfollowed := true, recurses := true, named := ["internal/bytealg.MaxLen"], apart := false }
def LinesWholeSaid : Prop := linesWholeRow.holds Try.pinned (OpenSpec.ofChange linesWholeSpec)

/-- ITS FALSE NEIGHBOUR: 'it returns false'. Refute it at one input. -/
def linesWholeWrong : ChangeSpec := { name := "linesWhole", fn := fun _ => fun
  | [d] => { results := [.lit (.bool false)], args := [d] }
  | _ => none }
def LinesWholeWrongFalsely : Prop := linesWholeRow.holds Try.pinned (OpenSpec.ofChange linesWholeWrong)

/-- 'regletlaw03.LinesWraps': WHATEVER THE INPUT: true; the input reads as it did. -/
def linesWrapsSpec : ChangeSpec := { name := "linesWraps", fn := fun _ => fun
  | [d] => { results := [.lit (.bool true)], args := [d] }
  | _ => none }
def linesWrapsRow : OpenClaim := { program := "ytonfmnohmigjpaa", sum := "8e9daca27c37efc9a02e6ef5d0deceb12d1a7235b30382727b538768862abaa3", func := "reglet/regletlaw03.LinesWraps", spec := "linesWraps", inPlace := ["internal/bytealg.IndexByteString", "internal/bytealg.IndexString"], unfollowed := true, recurses := true, named := ["internal/bytealg.MaxLen"], apart := false }
def LinesWrapsSaid : Prop := linesWrapsRow.holds Try.pinned (OpenSpec.ofChange linesWrapsSpec)

/-- ITS FALSE NEIGHBOUR: 'it returns false'. Refute it at one input. -/
def linesWrapsWrong : ChangeSpec := { name := "linesWraps", fn := fun _ => fun
  | [d] => { results := [.lit (.bool false)], args := [d] }
  | _ => none }
def LinesWrapsWrongFalsely : Prop := linesWrapsRow.holds Try.pinned (OpenSpec.ofChange linesWrapsWrong)

/-- 'regletlaw03.LinesNames': WHATEVER THE INPUT: true; the input reads as it did. -/
def linesNamesSpec : ChangeSpec := { name := "linesNames", fn := fun _ => fun
  | [] => { results := [.lit (.bool true)], args := [] }
  | _ => none }
def linesNamesRow : OpenClaim := { program := "ytonfmnohmigjpaa", sum := "8e9daca27c37efc9a02e6ef5d0deceb12d1a7235b30382727b538768862abaa3", func := "reglet/regletlaw03.LinesNames", spec := "linesNames", inPlace := ["internal/bytealg.IndexByteString", "internal/bytealg.IndexString"], unfollowed := true, recurses := true, named := ["internal/bytealg.MaxLen"], apart := false }
def LinesNamesSaid : Prop := linesNamesRow.holds Try.pinned (OpenSpec.ofChange linesNamesSpec)

/-- ITS FALSE NEIGHBOUR: 'it returns false'. Refute it at one input. -/
def linesNamesWrong : ChangeSpec := { name := "linesNames", fn := fun _ => fun
  | [] => { results := [.lit (.bool false)], args := [] }
  | _ => none }
def LinesNamesWrongFalsely : Prop := linesNamesRow.holds Try.pinned (OpenSpec.ofChange linesNamesWrong)

/-- 'regletlaw05.MacroRemarks': WHATEVER THE INPUT: true; the input reads as it did. -/
def macroRemarksSpec : ChangeSpec := { name := "macroRemarks", fn := fun _ => fun
  | [d1, d2] => { results := [.lit (.bool true)], args := [d1, d2] }
  | _ => none }
def macroRemarksRow : OpenClaim := { program := "ytonfmnohmigjpaa", sum := "8e9daca27c37efc9a02e6ef5d0deceb12d1a7235b30382727b538768862abaa3", func := "reglet/regletlaw05.MacroRemarks", spec := "macroRemarks", inPlace := ["internal/bytealg.IndexByteString", "internal/bytealg.IndexString", "internal/abi.NoEscape"], unfollowed := true, recurses := true, named := ["internal/bytealg.MaxLen"], apart := false }
def MacroRemarksSaid : Prop := macroRemarksRow.holds Try.pinned (OpenSpec.ofChange macroRemarksSpec)

/-- ITS FALSE NEIGHBOUR: 'it returns false'. Refute it at one input. -/
def macroRemarksWrong : ChangeSpec := { name := "macroRemarks", fn := fun _ => fun
  | [d1, d2] => { results := [.lit (.bool false)], args := [d1, d2] }
  | _ => none }
def MacroRemarksWrongFalsely : Prop := macroRemarksRow.holds Try.pinned (OpenSpec.ofChange macroRemarksWrong)

/-- 'regletlaw05.MacroNames': WHATEVER THE INPUT: true; the input reads as it did. -/
def macroNamesSpec : ChangeSpec := { name := "macroNames", fn := fun _ => fun
  | [] => { results := [.lit (.bool true)], args := [] }
  | _ => none }
def macroNamesRow : OpenClaim := { program := "ytonfmnohmigjpaa", sum := "8e9daca27c37efc9a02e6ef5d0deceb12d1a7235b30382727b538768862abaa3", func := "reglet/regletlaw05.MacroNames", spec := "macroNames", inPlace := ["internal/bytealg.IndexByteString", "internal/bytealg.IndexString", "internal/abi.NoEscape", "internal/bytealg.MakeNoZero"], unfollowed := true, recurses := true, named := ["internal/bytealg.MaxLen"], apart := false }
def MacroNamesSaid : Prop := macroNamesRow.holds Try.pinned (OpenSpec.ofChange macroNamesSpec)

/-- ITS FALSE NEIGHBOUR: 'it returns false'. Refute it at one input. -/
def macroNamesWrong : ChangeSpec := { name := "macroNames", fn := fun _ => fun
  | [] => { results := [.lit (.bool false)], args := [] }
  | _ => none }
def MacroNamesWrongFalsely : Prop := macroNamesRow.holds Try.pinned (OpenSpec.ofChange macroNamesWrong)

/-- 'regletlaw05.MacroBack': WHATEVER THE INPUT: true; the input reads as it did. -/
def macroBackSpec : ChangeSpec := { name := "macroBack", fn := fun _ => fun
  | [d] => { results := [.lit (.bool true)], args := [d] }
  | _ => none }
def macroBackRow : OpenClaim := { program := "ytonfmnohmigjpaa", sum := "8e9daca27c37efc9a02e6ef5d0deceb12d1a7235b30382727b538768862abaa3", func := "reglet/regletlaw05.MacroBack", spec := "macroBack", inPlace := ["internal/bytealg.IndexByteString", "internal/bytealg.IndexString", "internal/abi.NoEscape", "internal/bytealg.MakeNoZero"], unfollowed := true, recurses := true, named := ["internal/bytealg.MaxLen"], apart := false }
def MacroBackSaid : Prop := macroBackRow.holds Try.pinned (OpenSpec.ofChange macroBackSpec)

/-- ITS FALSE NEIGHBOUR: 'it returns false'. Refute it at one input. -/
def macroBackWrong : ChangeSpec := { name := "macroBack", fn := fun _ => fun
  | [d] => { results := [.lit (.bool false)], args := [d] }
  | _ => none }
def MacroBackWrongFalsely : Prop := macroBackRow.holds Try.pinned (OpenSpec.ofChange macroBackWrong)

/- THE SECOND FORM. 'bulk': how many values and letters a reading holds, each counted each time it is reached (what is shared counts as often as it is met; a slice's spare places count too). A statement '..UptoSaid' is the law's where the arguments, and the package variables that the reading takes, are together of bulk at most 1048576: NARROWER than '..Said'. Prove '..Said' where nothing that the law and all that it calls make is longer than what came in: it says more and counts as full. Else prove '..UptoSaid'. A law counts once. -/
mutual
def uptoBulk {H : Type} : DataW H → Nat
  | .lit (.string bytes) => bytes.length + 1
  | .lit _ => 1
  | .nil => 1
  | .ptr d => uptoBulk d + 1
  | .slice elems spare => uptoBulkAll elems + uptoBulkAll spare + 1
  | .agg parts => uptoBulkAll parts + 1
  | .iface _ d => uptoBulk d + 1
  | .map entries => uptoBulkEntries entries + 1
  | .held _ => 1
def uptoBulkAll {H : Type} : List (DataW H) → Nat
  | [] => 0
  | d :: r => uptoBulk d + uptoBulkAll r
def uptoBulkEntries {H : Type} : List (Lit × DataW H) → Nat
  | [] => 0
  | x :: r => uptoBulkEntry x + uptoBulkEntries r
def uptoBulkEntry {H : Type} : Lit × DataW H → Nat
  | (.string bytes, d) => bytes.length + uptoBulk d + 1
  | (_, d) => uptoBulk d + 1
 end
def uptoSmall : (H : Type) → List (DataW H) → Bool := fun _ ds => decide (uptoBulkAll ds ≤ 1048576)
def OpenSpec.upto (s : _root_.Go.ChangeSpec) : _root_.Go.OpenSpec := { _root_.Go.OpenSpec.ofChange s with cond := some uptoSmall }

/-- 'regletlaw02.ScanBares', WHERE WHAT IT READS IS OF BULK AT MOST 1048576: true; the input reads as it did. -/
def scanBaresUptoRow : OpenClaim := { program := "ytonfmnohmigjpaa", sum := "8e9daca27c37efc9a02e6ef5d0deceb12d1a7235b30382727b538768862abaa3", func := "reglet/regletlaw02.ScanBares", spec := "scanBares", apart := false, narrowed := true }
def ScanBaresUptoSaid : Prop := scanBaresUptoRow.holds Try.pinned (OpenSpec.upto scanBaresSpec)

/-- 'regletlaw03.LinesDepths', WHERE WHAT IT READS IS OF BULK AT MOST 1048576: true; the input reads as it did. -/
def linesDepthsUptoRow : OpenClaim := { program := "ytonfmnohmigjpaa", sum := "8e9daca27c37efc9a02e6ef5d0deceb12d1a7235b30382727b538768862abaa3", func := "reglet/regletlaw03.LinesDepths", spec := "linesDepths", apart := false, narrowed := true }
def LinesDepthsUptoSaid : Prop := linesDepthsUptoRow.holds Try.pinned (OpenSpec.upto linesDepthsSpec)

/-- 'regletlaw01.PhysSpells', WHERE WHAT IT READS IS OF BULK AT MOST 1048576: true; the input reads as it did. -/
def physSpellsUptoRow : OpenClaim := { program := "ytonfmnohmigjpaa", sum := "8e9daca27c37efc9a02e6ef5d0deceb12d1a7235b30382727b538768862abaa3", func := "reglet/regletlaw01.PhysSpells", spec := "physSpells", inPlace := ["internal/abi.NoEscape", "internal/bytealg.IndexByteString"], apart := false, narrowed := true }
def PhysSpellsUptoSaid : Prop := physSpellsUptoRow.holds Try.pinned (OpenSpec.upto physSpellsSpec)

/-- 'regletlaw03.LinesTells', WHERE WHAT IT READS IS OF BULK AT MOST 1048576: true; the input reads as it did. -/
def linesTellsUptoRow : OpenClaim := { program := "ytonfmnohmigjpaa", sum := "8e9daca27c37efc9a02e6ef5d0deceb12d1a7235b30382727b538768862abaa3", func := "reglet/regletlaw03.LinesTells", spec := "linesTells", unfollowed := true, recurses := true, apart := false, narrowed := true }
def LinesTellsUptoSaid : Prop := linesTellsUptoRow.holds Try.pinned (OpenSpec.upto linesTellsSpec)

/-- 'regletlaw01.PhysParts', WHERE WHAT IT READS IS OF BULK AT MOST 1048576: true; the input reads as it did. -/
def physPartsUptoRow : OpenClaim := { program := "ytonfmnohmigjpaa", sum := "8e9daca27c37efc9a02e6ef5d0deceb12d1a7235b30382727b538768862abaa3", func := "reglet/regletlaw01.PhysParts", spec := "physParts", inPlace := ["internal/bytealg.IndexByteString", "internal/abi.NoEscape"], unfollowed := true, recurses := true, apart := false, narrowed := true }
def PhysPartsUptoSaid : Prop := physPartsUptoRow.holds Try.pinned (OpenSpec.upto physPartsSpec)

/-- 'regletlaw01.PhysSplice', WHERE WHAT IT READS IS OF BULK AT MOST 1048576: true; the input reads as it did. -/
def physSpliceUptoRow : OpenClaim := { program := "ytonfmnohmigjpaa", sum := "8e9daca27c37efc9a02e6ef5d0deceb12d1a7235b30382727b538768862abaa3", func := "reglet/regletlaw01.PhysSplice", spec := "physSplice", inPlace := ["internal/bytealg.IndexByteString", "internal/abi.NoEscape"], unfollowed := true, recurses := true, apart := false, narrowed := true }
def PhysSpliceUptoSaid : Prop := physSpliceUptoRow.holds Try.pinned (OpenSpec.upto physSpliceSpec)

/-- 'regletlaw01.PhysTells', WHERE WHAT IT READS IS OF BULK AT MOST 1048576: true; the input reads as it did. -/
def physTellsUptoRow : OpenClaim := { program := "ytonfmnohmigjpaa", sum := "8e9daca27c37efc9a02e6ef5d0deceb12d1a7235b30382727b538768862abaa3", func := "reglet/regletlaw01.PhysTells", spec := "physTells", inPlace := ["internal/bytealg.IndexByteString", "internal/abi.NoEscape"], unfollowed := true, recurses := true, apart := false, narrowed := true }
def PhysTellsUptoSaid : Prop := physTellsUptoRow.holds Try.pinned (OpenSpec.upto physTellsSpec)

/-- 'regletlaw01.PhysCovers', WHERE WHAT IT READS IS OF BULK AT MOST 1048576: true; the input reads as it did. -/
def physCoversUptoRow : OpenClaim := { program := "ytonfmnohmigjpaa", sum := "8e9daca27c37efc9a02e6ef5d0deceb12d1a7235b30382727b538768862abaa3", func := "reglet/regletlaw01.PhysCovers", spec := "physCovers", inPlace := ["internal/bytealg.IndexByteString", "internal/abi.NoEscape"], unfollowed := true, recurses := true, apart := false, narrowed := true }
def PhysCoversUptoSaid : Prop := physCoversUptoRow.holds Try.pinned (OpenSpec.upto physCoversSpec)

/-- 'regletlaw01.PhysNames', WHERE WHAT IT READS IS OF BULK AT MOST 1048576: true; the input reads as it did. -/
def physNamesUptoRow : OpenClaim := { program := "ytonfmnohmigjpaa", sum := "8e9daca27c37efc9a02e6ef5d0deceb12d1a7235b30382727b538768862abaa3", func := "reglet/regletlaw01.PhysNames", spec := "physNames", inPlace := ["internal/bytealg.IndexByteString", "internal/abi.NoEscape"], unfollowed := true, recurses := true, apart := false, narrowed := true }
def PhysNamesUptoSaid : Prop := physNamesUptoRow.holds Try.pinned (OpenSpec.upto physNamesSpec)

/-- 'regletlaw01.PhysBack', WHERE WHAT IT READS IS OF BULK AT MOST 1048576: true; the input reads as it did. -/
def physBackUptoRow : OpenClaim := { program := "ytonfmnohmigjpaa", sum := "8e9daca27c37efc9a02e6ef5d0deceb12d1a7235b30382727b538768862abaa3", func := "reglet/regletlaw01.PhysBack", spec := "physBack", inPlace := ["internal/bytealg.IndexByteString", "internal/abi.NoEscape"], unfollowed := true, recurses := true, apart := false, narrowed := true }
def PhysBackUptoSaid : Prop := physBackUptoRow.holds Try.pinned (OpenSpec.upto physBackSpec)

/-- 'regletlaw02.ScanOnes', WHERE WHAT IT READS IS OF BULK AT MOST 1048576: true; the input reads as it did. -/
def scanOnesUptoRow : OpenClaim := { program := "ytonfmnohmigjpaa", sum := "8e9daca27c37efc9a02e6ef5d0deceb12d1a7235b30382727b538768862abaa3", func := "reglet/regletlaw02.ScanOnes", spec := "scanOnes", inPlace := ["internal/bytealg.IndexByteString", "internal/bytealg.IndexString"], unfollowed := true, recurses := true, named := ["internal/bytealg.MaxLen"], apart := false, narrowed := true }
def ScanOnesUptoSaid : Prop := scanOnesUptoRow.holds Try.pinned (OpenSpec.upto scanOnesSpec)

/-- 'regletlaw02.ScanCovers', WHERE WHAT IT READS IS OF BULK AT MOST 1048576: true; the input reads as it did. -/
def scanCoversUptoRow : OpenClaim := { program := "ytonfmnohmigjpaa", sum := "8e9daca27c37efc9a02e6ef5d0deceb12d1a7235b30382727b538768862abaa3", func := "reglet/regletlaw02.ScanCovers", spec := "scanCovers", inPlace := ["internal/bytealg.IndexByteString", "internal/bytealg.IndexString"], unfollowed := true, recurses := true, named := ["internal/bytealg.MaxLen"], apart := false, narrowed := true }
def ScanCoversUptoSaid : Prop := scanCoversUptoRow.holds Try.pinned (OpenSpec.upto scanCoversSpec)

/-- 'regletlaw02.ScanMunch', WHERE WHAT IT READS IS OF BULK AT MOST 1048576: true; the input reads as it did. -/
def scanMunchUptoRow : OpenClaim := { program := "ytonfmnohmigjpaa", sum := "8e9daca27c37efc9a02e6ef5d0deceb12d1a7235b30382727b538768862abaa3", func := "reglet/regletlaw02.ScanMunch", spec := "scanMunch", inPlace := ["internal/bytealg.IndexByteString", "internal/bytealg.IndexString"], unfollowed := true, recurses := true, named := ["internal/bytealg.MaxLen"], apart := false, narrowed := true }
def ScanMunchUptoSaid : Prop := scanMunchUptoRow.holds Try.pinned (OpenSpec.upto scanMunchSpec)

/-- 'regletlaw02.ScanNames', WHERE WHAT IT READS IS OF BULK AT MOST 1048576: true; the input reads as it did. -/
def scanNamesUptoRow : OpenClaim := { program := "ytonfmnohmigjpaa", sum := "8e9daca27c37efc9a02e6ef5d0deceb12d1a7235b30382727b538768862abaa3", func := "reglet/regletlaw02.ScanNames", spec := "scanNames", inPlace := ["internal/bytealg.IndexByteString", "internal/bytealg.IndexString"], unfollowed := true, recurses := true, named := ["internal/bytealg.MaxLen"], apart := false, narrowed := true }
def ScanNamesUptoSaid : Prop := scanNamesUptoRow.holds Try.pinned (OpenSpec.upto scanNamesSpec)

/-- 'regletlaw02.ScanSpaces', WHERE WHAT IT READS IS OF BULK AT MOST 1048576: true; the input reads as it did. -/
def scanSpacesUptoRow : OpenClaim := { program := "ytonfmnohmigjpaa", sum := "8e9daca27c37efc9a02e6ef5d0deceb12d1a7235b30382727b538768862abaa3", func := "reglet/regletlaw02.ScanSpaces", spec := "scanSpaces", inPlace := ["internal/bytealg.IndexByteString", "internal/bytealg.IndexString", "internal/abi.NoEscape"], unfollowed := true, recurses := true, named := ["internal/bytealg.MaxLen"], apart := false, narrowed := true }
def ScanSpacesUptoSaid : Prop := scanSpacesUptoRow.holds Try.pinned (OpenSpec.upto scanSpacesSpec)

/-- 'regletlaw03.LinesWhole', WHERE WHAT IT READS IS OF BULK AT MOST 1048576: true; the input reads as it did. -/
def linesWholeUptoRow : OpenClaim := { program := "ytonfmnohmigjpaa", sum := "8e9daca27c37efc9a02e6ef5d0deceb12d1a7235b30382727b538768862abaa3", func := "reglet/regletlaw03.LinesWhole", spec := "linesWhole", inPlace := ["internal/bytealg.IndexByteString", "internal/bytealg.IndexString"], unfollowed := true, recurses := true, named := ["internal/bytealg.MaxLen"], apart := false, narrowed := true }
def LinesWholeUptoSaid : Prop := linesWholeUptoRow.holds Try.pinned (OpenSpec.upto linesWholeSpec)

/-- 'regletlaw03.LinesWraps', WHERE WHAT IT READS IS OF BULK AT MOST 1048576: true; the input reads as it did. -/
def linesWrapsUptoRow : OpenClaim := { program := "ytonfmnohmigjpaa", sum := "8e9daca27c37efc9a02e6ef5d0deceb12d1a7235b30382727b538768862abaa3", func := "reglet/regletlaw03.LinesWraps", spec := "linesWraps", inPlace := ["internal/bytealg.IndexByteString", "internal/bytealg.IndexString"], unfollowed := true, recurses := true, named := ["internal/bytealg.MaxLen"], apart := false, narrowed := true }
def LinesWrapsUptoSaid : Prop := linesWrapsUptoRow.holds Try.pinned (OpenSpec.upto linesWrapsSpec)

/-- 'regletlaw03.LinesNames', WHERE WHAT IT READS IS OF BULK AT MOST 1048576: true; the input reads as it did. -/
def linesNamesUptoRow : OpenClaim := { program := "ytonfmnohmigjpaa", sum := "8e9daca27c37efc9a02e6ef5d0deceb12d1a7235b30382727b538768862abaa3", func := "reglet/regletlaw03.LinesNames", spec := "linesNames", inPlace := ["internal/bytealg.IndexByteString", "internal/bytealg.IndexString"], unfollowed := true, recurses := true, named := ["internal/bytealg.MaxLen"], apart := false, narrowed := true }
def LinesNamesUptoSaid : Prop := linesNamesUptoRow.holds Try.pinned (OpenSpec.upto linesNamesSpec)

/-- 'regletlaw05.MacroRemarks', WHERE WHAT IT READS IS OF BULK AT MOST 1048576: true; the input reads as it did. -/
def macroRemarksUptoRow : OpenClaim := { program := "ytonfmnohmigjpaa", sum := "8e9daca27c37efc9a02e6ef5d0deceb12d1a7235b30382727b538768862abaa3", func := "reglet/regletlaw05.MacroRemarks", spec := "macroRemarks", inPlace := ["internal/bytealg.IndexByteString", "internal/bytealg.IndexString", "internal/abi.NoEscape"], unfollowed := true, recurses := true, named := ["internal/bytealg.MaxLen"], apart := false, narrowed := true }
def MacroRemarksUptoSaid : Prop := macroRemarksUptoRow.holds Try.pinned (OpenSpec.upto macroRemarksSpec)

/-- 'regletlaw05.MacroNames', WHERE WHAT IT READS IS OF BULK AT MOST 1048576: true; the input reads as it did. -/
def macroNamesUptoRow : OpenClaim := { program := "ytonfmnohmigjpaa", sum := "8e9daca27c37efc9a02e6ef5d0deceb12d1a7235b30382727b538768862abaa3", func := "reglet/regletlaw05.MacroNames", spec := "macroNames", inPlace := ["internal/bytealg.IndexByteString", "internal/bytealg.IndexString", "internal/abi.NoEscape", "internal/bytealg.MakeNoZero"], unfollowed := true, recurses := true, named := ["internal/bytealg.MaxLen"], apart := false, narrowed := true }
def MacroNamesUptoSaid : Prop := macroNamesUptoRow.holds Try.pinned (OpenSpec.upto macroNamesSpec)

/-- 'regletlaw05.MacroBack', WHERE WHAT IT READS IS OF BULK AT MOST 1048576: true; the input reads as it did. -/
def macroBackUptoRow : OpenClaim := { program := "ytonfmnohmigjpaa", sum := "8e9daca27c37efc9a02e6ef5d0deceb12d1a7235b30382727b538768862abaa3", func := "reglet/regletlaw05.MacroBack", spec := "macroBack", inPlace := ["internal/bytealg.IndexByteString", "internal/bytealg.IndexString", "internal/abi.NoEscape", "internal/bytealg.MakeNoZero"], unfollowed := true, recurses := true, named := ["internal/bytealg.MaxLen"], apart := false, narrowed := true }
def MacroBackUptoSaid : Prop := macroBackUptoRow.holds Try.pinned (OpenSpec.upto macroBackSpec)

end Rows
end Go.Proofs.Ytonfmnohmigjpaa
