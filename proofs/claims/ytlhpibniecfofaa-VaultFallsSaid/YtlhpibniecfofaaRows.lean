/-
  No cell of these rows narrows 'for every input' (looked for: loops, veiled, ifaces, maps, wideKeys, modest, calm, conditions, laid).
  DERIVED. THE GIVEN ROWS OF THIS SEAT. 8 by the template 'for every input the law returns true; each argument reads behind the call as it read before'; 0 by the template 'total and deterministic' (their statements: YtlhpibniecfofaaTotals.lean).
  GIVEN WITH THE SEED: the statements are not yours to turn. If you find one false, say at which input.
  Laid BY PROGRAM, IN A SANDBOX (cutbox-rows.mjs): the forced cells as the released guide's own fill.sh prints them over the translation 36ffb8d523af3b18… (all of the seat's roots in one cut). By AI agents, Wed Nov 11 2026. No macro, syntax, notation, axiom, sorry.
-/
import Derived.Test.YtlhpibniecfofaaChecked
import GoSem.Claim
import GoSem.ClaimJoined
import GoSem.ClaimMapViews
import Derived.JoinedTies
import Derived.KernelRfl
namespace Go.Proofs.Ytlhpibniecfofaa
/- THE CELL 'sum', in the pinned program and in every row, IS THE sha256 OF THE DUMP (.gsa) THAT YtlhpibniecfofaaProg.lean LOADS. Nothing in Lean hashes anything: it is a label: what it is worth is what the hold of that sum in a sandbox is worth. -/
noncomputable def Try.pinned : Pinned := { name := "ytlhpibniecfofaa", sum := "36ffb8d523af3b187dda63d3a5cbbd4ac8ddb552fb7d071095b35af7691bbb74", checked := Try.checked }
namespace Rows
def none {H : Type} : Left H := { results := [], args := [] }

/-- 'offprintlaw35.DiskPlays': WHATEVER THE INPUT: true; the input reads as it did. -/
def diskPlaysSpec : ChangeSpec := { name := "diskPlays", fn := fun _ => fun
  | [d1, d2] => { results := [.lit (.bool true)], args := [d1, d2] }
  | _ => none }
def diskPlaysRow : OpenClaim := { program := "ytlhpibniecfofaa", sum := "36ffb8d523af3b187dda63d3a5cbbd4ac8ddb552fb7d071095b35af7691bbb74", func := "offprint/offprintlaw35.DiskPlays", spec := "diskPlays", apart := false }
def DiskPlaysSaid : Prop := diskPlaysRow.holds Try.pinned (OpenSpec.ofChange diskPlaysSpec)

/-- ITS FALSE NEIGHBOUR: 'it returns false'. Refute it at one input. -/
def diskPlaysWrong : ChangeSpec := { name := "diskPlays", fn := fun _ => fun
  | [d1, d2] => { results := [.lit (.bool false)], args := [d1, d2] }
  | _ => none }
def DiskPlaysWrongFalsely : Prop := diskPlaysRow.holds Try.pinned (OpenSpec.ofChange diskPlaysWrong)

/-- 'offprintlaw38.RootSectors': WHATEVER THE INPUT: true; the input reads as it did. -/
def rootSectorsSpec : ChangeSpec := { name := "rootSectors", fn := fun _ => fun
  | [d1, d2] => { results := [.lit (.bool true)], args := [d1, d2] }
  | _ => none }
def rootSectorsRow : OpenClaim := { program := "ytlhpibniecfofaa", sum := "36ffb8d523af3b187dda63d3a5cbbd4ac8ddb552fb7d071095b35af7691bbb74", func := "offprint/offprintlaw38.RootSectors", spec := "rootSectors", apart := false }
def RootSectorsSaid : Prop := rootSectorsRow.holds Try.pinned (OpenSpec.ofChange rootSectorsSpec)

/-- ITS FALSE NEIGHBOUR: 'it returns false'. Refute it at one input. -/
def rootSectorsWrong : ChangeSpec := { name := "rootSectors", fn := fun _ => fun
  | [d1, d2] => { results := [.lit (.bool false)], args := [d1, d2] }
  | _ => none }
def RootSectorsWrongFalsely : Prop := rootSectorsRow.holds Try.pinned (OpenSpec.ofChange rootSectorsWrong)

/-- 'offprintlaw38.RootPlays': WHATEVER THE INPUT: true; the input reads as it did. -/
def rootPlaysSpec : ChangeSpec := { name := "rootPlays", fn := fun _ => fun
  | [d1, d2] => { results := [.lit (.bool true)], args := [d1, d2] }
  | _ => none }
def rootPlaysRow : OpenClaim := { program := "ytlhpibniecfofaa", sum := "36ffb8d523af3b187dda63d3a5cbbd4ac8ddb552fb7d071095b35af7691bbb74", func := "offprint/offprintlaw38.RootPlays", spec := "rootPlays", apart := false }
def RootPlaysSaid : Prop := rootPlaysRow.holds Try.pinned (OpenSpec.ofChange rootPlaysSpec)

/-- ITS FALSE NEIGHBOUR: 'it returns false'. Refute it at one input. -/
def rootPlaysWrong : ChangeSpec := { name := "rootPlays", fn := fun _ => fun
  | [d1, d2] => { results := [.lit (.bool false)], args := [d1, d2] }
  | _ => none }
def RootPlaysWrongFalsely : Prop := rootPlaysRow.holds Try.pinned (OpenSpec.ofChange rootPlaysWrong)

/-- 'offprintlaw38.RootFalls': WHATEVER THE INPUT: true; the input reads as it did. -/
def rootFallsSpec : ChangeSpec := { name := "rootFalls", fn := fun _ => fun
  | [d1, d2] => { results := [.lit (.bool true)], args := [d1, d2] }
  | _ => none }
def rootFallsRow : OpenClaim := { program := "ytlhpibniecfofaa", sum := "36ffb8d523af3b187dda63d3a5cbbd4ac8ddb552fb7d071095b35af7691bbb74", func := "offprint/offprintlaw38.RootFalls", spec := "rootFalls", apart := false }
def RootFallsSaid : Prop := rootFallsRow.holds Try.pinned (OpenSpec.ofChange rootFallsSpec)

/-- ITS FALSE NEIGHBOUR: 'it returns false'. Refute it at one input. -/
def rootFallsWrong : ChangeSpec := { name := "rootFalls", fn := fun _ => fun
  | [d1, d2] => { results := [.lit (.bool false)], args := [d1, d2] }
  | _ => none }
def RootFallsWrongFalsely : Prop := rootFallsRow.holds Try.pinned (OpenSpec.ofChange rootFallsWrong)

/-- 'offprintlaw37.RingFalls': WHATEVER THE INPUT: true; the input reads as it did. -/
def ringFallsSpec : ChangeSpec := { name := "ringFalls", fn := fun _ => fun
  | [d1, d2] => { results := [.lit (.bool true)], args := [d1, d2] }
  | _ => none }
def ringFallsRow : OpenClaim := { program := "ytlhpibniecfofaa", sum := "36ffb8d523af3b187dda63d3a5cbbd4ac8ddb552fb7d071095b35af7691bbb74", func := "offprint/offprintlaw37.RingFalls", spec := "ringFalls", apart := false }
def RingFallsSaid : Prop := ringFallsRow.holds Try.pinned (OpenSpec.ofChange ringFallsSpec)

/-- ITS FALSE NEIGHBOUR: 'it returns false'. Refute it at one input. -/
def ringFallsWrong : ChangeSpec := { name := "ringFalls", fn := fun _ => fun
  | [d1, d2] => { results := [.lit (.bool false)], args := [d1, d2] }
  | _ => none }
def RingFallsWrongFalsely : Prop := ringFallsRow.holds Try.pinned (OpenSpec.ofChange ringFallsWrong)

/-- 'offprintlaw37.RingPlays': WHATEVER THE INPUT: true; the input reads as it did. -/
def ringPlaysSpec : ChangeSpec := { name := "ringPlays", fn := fun _ => fun
  | [d1, d2, d3] => { results := [.lit (.bool true)], args := [d1, d2, d3] }
  | _ => none }
def ringPlaysRow : OpenClaim := { program := "ytlhpibniecfofaa", sum := "36ffb8d523af3b187dda63d3a5cbbd4ac8ddb552fb7d071095b35af7691bbb74", func := "offprint/offprintlaw37.RingPlays", spec := "ringPlays", apart := false }
def RingPlaysSaid : Prop := ringPlaysRow.holds Try.pinned (OpenSpec.ofChange ringPlaysSpec)

/-- ITS FALSE NEIGHBOUR: 'it returns false'. Refute it at one input. -/
def ringPlaysWrong : ChangeSpec := { name := "ringPlays", fn := fun _ => fun
  | [d1, d2, d3] => { results := [.lit (.bool false)], args := [d1, d2, d3] }
  | _ => none }
def RingPlaysWrongFalsely : Prop := ringPlaysRow.holds Try.pinned (OpenSpec.ofChange ringPlaysWrong)

/-- 'offprintlaw39.VaultSame': WHATEVER THE INPUT: true; the input reads as it did. -/
def vaultSameSpec : ChangeSpec := { name := "vaultSame", fn := fun _ => fun
  | [d1, d2, d3] => { results := [.lit (.bool true)], args := [d1, d2, d3] }
  | _ => none }
def vaultSameRow : OpenClaim := { program := "ytlhpibniecfofaa", sum := "36ffb8d523af3b187dda63d3a5cbbd4ac8ddb552fb7d071095b35af7691bbb74", func := "offprint/offprintlaw39.VaultSame", spec := "vaultSame", apart := false }
def VaultSameSaid : Prop := vaultSameRow.holds Try.pinned (OpenSpec.ofChange vaultSameSpec)

/-- ITS FALSE NEIGHBOUR: 'it returns false'. Refute it at one input. -/
def vaultSameWrong : ChangeSpec := { name := "vaultSame", fn := fun _ => fun
  | [d1, d2, d3] => { results := [.lit (.bool false)], args := [d1, d2, d3] }
  | _ => none }
def VaultSameWrongFalsely : Prop := vaultSameRow.holds Try.pinned (OpenSpec.ofChange vaultSameWrong)

/-- 'offprintlaw39.VaultFalls': WHATEVER THE INPUT: true; the input reads as it did. -/
def vaultFallsSpec : ChangeSpec := { name := "vaultFalls", fn := fun _ => fun
  | [d] => { results := [.lit (.bool true)], args := [d] }
  | _ => none }
def vaultFallsRow : OpenClaim := { program := "ytlhpibniecfofaa", sum := "36ffb8d523af3b187dda63d3a5cbbd4ac8ddb552fb7d071095b35af7691bbb74", func := "offprint/offprintlaw39.VaultFalls", spec := "vaultFalls", apart := false }
def VaultFallsSaid : Prop := vaultFallsRow.holds Try.pinned (OpenSpec.ofChange vaultFallsSpec)

/-- ITS FALSE NEIGHBOUR: 'it returns false'. Refute it at one input. -/
def vaultFallsWrong : ChangeSpec := { name := "vaultFalls", fn := fun _ => fun
  | [d] => { results := [.lit (.bool false)], args := [d] }
  | _ => none }
def VaultFallsWrongFalsely : Prop := vaultFallsRow.holds Try.pinned (OpenSpec.ofChange vaultFallsWrong)

/- THE SECOND FORM. 'bulk': how many values and letters a reading holds, each counted each time it is reached (what is shared counts as often as it is met; a slice's spare places count too). A statement '..UptoSaid' is the law's where the arguments, and the package variables that the reading takes, are together of bulk at most 1048576: NARROWER than '..Said'. Prove '..Said' where nothing that the law and all that it calls make is longer than what came in: it says more and counts as full. Else prove '..UptoSaid'. A law counts once. -/
mutual
def uptoBulk {H : Type} : DataW H → Nat
  | .lit (.string bytes) => bytes.length + 1
  | .lit _ => 1
  | .nil => 1
  | .ptr d => uptoBulk d + 1
  | .slice elems spare => uptoBulkAll elems + uptoBulkAll spare + 1
  | .agg parts => uptoBulkAll parts + 1
  | .iface _ d => uptoBulk d + 1
  | .map entries => uptoBulkEntries entries + 1
  | .held _ => 1
def uptoBulkAll {H : Type} : List (DataW H) → Nat
  | [] => 0
  | d :: r => uptoBulk d + uptoBulkAll r
def uptoBulkEntries {H : Type} : List (Lit × DataW H) → Nat
  | [] => 0
  | x :: r => uptoBulkEntry x + uptoBulkEntries r
def uptoBulkEntry {H : Type} : Lit × DataW H → Nat
  | (.string bytes, d) => bytes.length + uptoBulk d + 1
  | (_, d) => uptoBulk d + 1
 end
def uptoSmall : (H : Type) → List (DataW H) → Bool := fun _ ds => decide (uptoBulkAll ds ≤ 1048576)
def OpenSpec.upto (s : _root_.Go.ChangeSpec) : _root_.Go.OpenSpec := { _root_.Go.OpenSpec.ofChange s with cond := some uptoSmall }

/-- 'offprintlaw35.DiskPlays', WHERE WHAT IT READS IS OF BULK AT MOST 1048576: true; the input reads as it did. -/
def diskPlaysUptoRow : OpenClaim := { program := "ytlhpibniecfofaa", sum := "36ffb8d523af3b187dda63d3a5cbbd4ac8ddb552fb7d071095b35af7691bbb74", func := "offprint/offprintlaw35.DiskPlays", spec := "diskPlays", apart := false, narrowed := true }
def DiskPlaysUptoSaid : Prop := diskPlaysUptoRow.holds Try.pinned (OpenSpec.upto diskPlaysSpec)

/-- 'offprintlaw38.RootSectors', WHERE WHAT IT READS IS OF BULK AT MOST 1048576: true; the input reads as it did. -/
def rootSectorsUptoRow : OpenClaim := { program := "ytlhpibniecfofaa", sum := "36ffb8d523af3b187dda63d3a5cbbd4ac8ddb552fb7d071095b35af7691bbb74", func := "offprint/offprintlaw38.RootSectors", spec := "rootSectors", apart := false, narrowed := true }
def RootSectorsUptoSaid : Prop := rootSectorsUptoRow.holds Try.pinned (OpenSpec.upto rootSectorsSpec)

/-- 'offprintlaw38.RootPlays', WHERE WHAT IT READS IS OF BULK AT MOST 1048576: true; the input reads as it did. -/
def rootPlaysUptoRow : OpenClaim := { program := "ytlhpibniecfofaa", sum := "36ffb8d523af3b187dda63d3a5cbbd4ac8ddb552fb7d071095b35af7691bbb74", func := "offprint/offprintlaw38.RootPlays", spec := "rootPlays", apart := false, narrowed := true }
def RootPlaysUptoSaid : Prop := rootPlaysUptoRow.holds Try.pinned (OpenSpec.upto rootPlaysSpec)

/-- 'offprintlaw38.RootFalls', WHERE WHAT IT READS IS OF BULK AT MOST 1048576: true; the input reads as it did. -/
def rootFallsUptoRow : OpenClaim := { program := "ytlhpibniecfofaa", sum := "36ffb8d523af3b187dda63d3a5cbbd4ac8ddb552fb7d071095b35af7691bbb74", func := "offprint/offprintlaw38.RootFalls", spec := "rootFalls", apart := false, narrowed := true }
def RootFallsUptoSaid : Prop := rootFallsUptoRow.holds Try.pinned (OpenSpec.upto rootFallsSpec)

/-- 'offprintlaw37.RingFalls', WHERE WHAT IT READS IS OF BULK AT MOST 1048576: true; the input reads as it did. -/
def ringFallsUptoRow : OpenClaim := { program := "ytlhpibniecfofaa", sum := "36ffb8d523af3b187dda63d3a5cbbd4ac8ddb552fb7d071095b35af7691bbb74", func := "offprint/offprintlaw37.RingFalls", spec := "ringFalls", apart := false, narrowed := true }
def RingFallsUptoSaid : Prop := ringFallsUptoRow.holds Try.pinned (OpenSpec.upto ringFallsSpec)

/-- 'offprintlaw37.RingPlays', WHERE WHAT IT READS IS OF BULK AT MOST 1048576: true; the input reads as it did. -/
def ringPlaysUptoRow : OpenClaim := { program := "ytlhpibniecfofaa", sum := "36ffb8d523af3b187dda63d3a5cbbd4ac8ddb552fb7d071095b35af7691bbb74", func := "offprint/offprintlaw37.RingPlays", spec := "ringPlays", apart := false, narrowed := true }
def RingPlaysUptoSaid : Prop := ringPlaysUptoRow.holds Try.pinned (OpenSpec.upto ringPlaysSpec)

/-- 'offprintlaw39.VaultSame', WHERE WHAT IT READS IS OF BULK AT MOST 1048576: true; the input reads as it did. -/
def vaultSameUptoRow : OpenClaim := { program := "ytlhpibniecfofaa", sum := "36ffb8d523af3b187dda63d3a5cbbd4ac8ddb552fb7d071095b35af7691bbb74", func := "offprint/offprintlaw39.VaultSame", spec := "vaultSame", apart := false, narrowed := true }
def VaultSameUptoSaid : Prop := vaultSameUptoRow.holds Try.pinned (OpenSpec.upto vaultSameSpec)

/-- 'offprintlaw39.VaultFalls', WHERE WHAT IT READS IS OF BULK AT MOST 1048576: true; the input reads as it did. -/
def vaultFallsUptoRow : OpenClaim := { program := "ytlhpibniecfofaa", sum := "36ffb8d523af3b187dda63d3a5cbbd4ac8ddb552fb7d071095b35af7691bbb74", func := "offprint/offprintlaw39.VaultFalls", spec := "vaultFalls", apart := false, narrowed := true }
def VaultFallsUptoSaid : Prop := vaultFallsUptoRow.holds Try.pinned (OpenSpec.upto vaultFallsSpec)

end Rows
end Go.Proofs.Ytlhpibniecfofaa
