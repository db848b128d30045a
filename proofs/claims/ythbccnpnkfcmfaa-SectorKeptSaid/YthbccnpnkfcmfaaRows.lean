/-
  No cell of these rows narrows 'for every input' (looked for: loops, veiled, ifaces, maps, wideKeys, modest, calm, conditions, laid).
  DERIVED. THE GIVEN ROWS OF THIS SEAT. 4 by the template 'for every input the law returns true; each argument reads behind the call as it read before'; 0 by the template 'total and deterministic' (their statements: YthbccnpnkfcmfaaTotals.lean).
  GIVEN WITH THE SEED: the statements are not yours to turn. If you find one false, say at which input.
  Laid BY PROGRAM, IN A SANDBOX (cutbox-rows.mjs): the forced cells as the released guide's own fill.sh prints them over the translation a2b980a861c1f2ee… (all of the seat's roots in one cut). By AI agents, Wed Nov 11 2026. No macro, syntax, notation, axiom, sorry.
-/
import Derived.Test.YthbccnpnkfcmfaaChecked
import GoSem.Claim
import GoSem.ClaimJoined
import GoSem.ClaimMapViews
import Derived.JoinedTies
import Derived.KernelRfl
namespace Go.Proofs.Ythbccnpnkfcmfaa
/- THE CELL 'sum', in the pinned program and in every row, IS THE sha256 OF THE DUMP (.gsa) THAT YthbccnpnkfcmfaaProg.lean LOADS. Nothing in Lean hashes anything: it is a label: what it is worth is what the hold of that sum in a sandbox is worth. -/
noncomputable def Try.pinned : Pinned := { name := "ythbccnpnkfcmfaa", sum := "a2b980a861c1f2ee500ec33540a05426f2342808df3764a340a46cb10da24b92", checked := Try.checked }
namespace Rows
def none {H : Type} : Left H := { results := [], args := [] }

/-- 'hurdlelaw09.SectorSure': WHATEVER THE INPUT: true; the input reads as it did. -/
def sectorSureSpec : ChangeSpec := { name := "sectorSure", fn := fun _ => fun
  | [d1, d2, d3] => { results := [.lit (.bool true)], args := [d1, d2, d3] }
  | _ => none }
def sectorSureRow : OpenClaim := { program := "ythbccnpnkfcmfaa", sum := "a2b980a861c1f2ee500ec33540a05426f2342808df3764a340a46cb10da24b92", func := "hurdle/hurdlelaw09.SectorSure", spec := "sectorSure", recurses := true, apart := false }
def SectorSureSaid : Prop := sectorSureRow.holds Try.pinned (OpenSpec.ofChange sectorSureSpec)

/-- ITS FALSE NEIGHBOUR: 'it returns false'. Refute it at one input. -/
def sectorSureWrong : ChangeSpec := { name := "sectorSure", fn := fun _ => fun
  | [d1, d2, d3] => { results := [.lit (.bool false)], args := [d1, d2, d3] }
  | _ => none }
def SectorSureWrongFalsely : Prop := sectorSureRow.holds Try.pinned (OpenSpec.ofChange sectorSureWrong)

/-- 'hurdlelaw09.SectorKept': WHATEVER THE INPUT: true; the input reads as it did. -/
def sectorKeptSpec : ChangeSpec := { name := "sectorKept", fn := fun _ => fun
  | [d1, d2, d3] => { results := [.lit (.bool true)], args := [d1, d2, d3] }
  | _ => none }
def sectorKeptRow : OpenClaim := { program := "ythbccnpnkfcmfaa", sum := "a2b980a861c1f2ee500ec33540a05426f2342808df3764a340a46cb10da24b92", func := "hurdle/hurdlelaw09.SectorKept", spec := "sectorKept", recurses := true, apart := false }
def SectorKeptSaid : Prop := sectorKeptRow.holds Try.pinned (OpenSpec.ofChange sectorKeptSpec)

/-- ITS FALSE NEIGHBOUR: 'it returns false'. Refute it at one input. -/
def sectorKeptWrong : ChangeSpec := { name := "sectorKept", fn := fun _ => fun
  | [d1, d2, d3] => { results := [.lit (.bool false)], args := [d1, d2, d3] }
  | _ => none }
def SectorKeptWrongFalsely : Prop := sectorKeptRow.holds Try.pinned (OpenSpec.ofChange sectorKeptWrong)

/-- 'hurdlelaw09.SectorTorn': WHATEVER THE INPUT: true; the input reads as it did. -/
def sectorTornSpec : ChangeSpec := { name := "sectorTorn", fn := fun _ => fun
  | [d1, d2, d3] => { results := [.lit (.bool true)], args := [d1, d2, d3] }
  | _ => none }
def sectorTornRow : OpenClaim := { program := "ythbccnpnkfcmfaa", sum := "a2b980a861c1f2ee500ec33540a05426f2342808df3764a340a46cb10da24b92", func := "hurdle/hurdlelaw09.SectorTorn", spec := "sectorTorn", recurses := true, apart := false }
def SectorTornSaid : Prop := sectorTornRow.holds Try.pinned (OpenSpec.ofChange sectorTornSpec)

/-- ITS FALSE NEIGHBOUR: 'it returns false'. Refute it at one input. -/
def sectorTornWrong : ChangeSpec := { name := "sectorTorn", fn := fun _ => fun
  | [d1, d2, d3] => { results := [.lit (.bool false)], args := [d1, d2, d3] }
  | _ => none }
def SectorTornWrongFalsely : Prop := sectorTornRow.holds Try.pinned (OpenSpec.ofChange sectorTornWrong)

/-- 'hurdlelaw09.SectorNone': WHATEVER THE INPUT: true; the input reads as it did. -/
def sectorNoneSpec : ChangeSpec := { name := "sectorNone", fn := fun _ => fun
  | [d] => { results := [.lit (.bool true)], args := [d] }
  | _ => none }
def sectorNoneRow : OpenClaim := { program := "ythbccnpnkfcmfaa", sum := "a2b980a861c1f2ee500ec33540a05426f2342808df3764a340a46cb10da24b92", func := "hurdle/hurdlelaw09.SectorNone", spec := "sectorNone", recurses := true, apart := false }
def SectorNoneSaid : Prop := sectorNoneRow.holds Try.pinned (OpenSpec.ofChange sectorNoneSpec)

/-- ITS FALSE NEIGHBOUR: 'it returns false'. Refute it at one input. -/
def sectorNoneWrong : ChangeSpec := { name := "sectorNone", fn := fun _ => fun
  | [d] => { results := [.lit (.bool false)], args := [d] }
  | _ => none }
def SectorNoneWrongFalsely : Prop := sectorNoneRow.holds Try.pinned (OpenSpec.ofChange sectorNoneWrong)

/- THE SECOND FORM. 'bulk': how many values and letters a reading holds, each counted each time it is reached (what is shared counts as often as it is met; a slice's spare places count too). A statement '..UptoSaid' is the law's where the arguments, and the package variables that the reading takes, are together of bulk at most 1048576: NARROWER than '..Said'. Prove '..Said' where nothing that the law and all that it calls make is longer than what came in: it says more and counts as full. Else prove '..UptoSaid'. A law counts once. -/
mutual
def uptoBulk {H : Type} : DataW H → Nat
  | .lit (.string bytes) => bytes.length + 1
  | .lit _ => 1
  | .nil => 1
  | .ptr d => uptoBulk d + 1
  | .slice elems spare => uptoBulkAll elems + uptoBulkAll spare + 1
  | .agg parts => uptoBulkAll parts + 1
  | .iface _ d => uptoBulk d + 1
  | .map entries => uptoBulkEntries entries + 1
  | .held _ => 1
def uptoBulkAll {H : Type} : List (DataW H) → Nat
  | [] => 0
  | d :: r => uptoBulk d + uptoBulkAll r
def uptoBulkEntries {H : Type} : List (Lit × DataW H) → Nat
  | [] => 0
  | x :: r => uptoBulkEntry x + uptoBulkEntries r
def uptoBulkEntry {H : Type} : Lit × DataW H → Nat
  | (.string bytes, d) => bytes.length + uptoBulk d + 1
  | (_, d) => uptoBulk d + 1
 end
def uptoSmall : (H : Type) → List (DataW H) → Bool := fun _ ds => decide (uptoBulkAll ds ≤ 1048576)
def OpenSpec.upto (s : _root_.Go.ChangeSpec) : _root_.Go.OpenSpec := { _root_.Go.OpenSpec.ofChange s with cond := some uptoSmall }

/-- 'hurdlelaw09.SectorSure', WHERE WHAT IT READS IS OF BULK AT MOST 1048576: true; the input reads as it did. -/
def sectorSureUptoRow : OpenClaim := { program := "ythbccnpnkfcmfaa", sum := "a2b980a861c1f2ee500ec33540a05426f2342808df3764a340a46cb10da24b92", func := "hurdle/hurdlelaw09.SectorSure", spec := "sectorSure", recurses := true, apart := false, narrowed := true }
def SectorSureUptoSaid : Prop := sectorSureUptoRow.holds Try.pinned (OpenSpec.upto sectorSureSpec)

/-- 'hurdlelaw09.SectorKept', WHERE WHAT IT READS IS OF BULK AT MOST 1048576: true; the input reads as it did. -/
def sectorKeptUptoRow : OpenClaim := { program := "ythbccnpnkfcmfaa", sum := "a2b980a861c1f2ee500ec33540a05426f2342808df3764a340a46cb10da24b92", func := "hurdle/hurdlelaw09.SectorKept", spec := "sectorKept", recurses := true, apart := false, narrowed := true }
def SectorKeptUptoSaid : Prop := sectorKeptUptoRow.holds Try.pinned (OpenSpec.upto sectorKeptSpec)

/-- 'hurdlelaw09.SectorTorn', WHERE WHAT IT READS IS OF BULK AT MOST 1048576: true; the input reads as it did. -/
def sectorTornUptoRow : OpenClaim := { program := "ythbccnpnkfcmfaa", sum := "a2b980a861c1f2ee500ec33540a05426f2342808df3764a340a46cb10da24b92", func := "hurdle/hurdlelaw09.SectorTorn", spec := "sectorTorn", recurses := true, apart := false, narrowed := true }
def SectorTornUptoSaid : Prop := sectorTornUptoRow.holds Try.pinned (OpenSpec.upto sectorTornSpec)

/-- 'hurdlelaw09.SectorNone', WHERE WHAT IT READS IS OF BULK AT MOST 1048576: true; the input reads as it did. -/
def sectorNoneUptoRow : OpenClaim := { program := "ythbccnpnkfcmfaa", sum := "a2b980a861c1f2ee500ec33540a05426f2342808df3764a340a46cb10da24b92", func := "hurdle/hurdlelaw09.SectorNone", spec := "sectorNone", recurses := true, apart := false, narrowed := true }
def SectorNoneUptoSaid : Prop := sectorNoneUptoRow.holds Try.pinned (OpenSpec.upto sectorNoneSpec)

end Rows
end Go.Proofs.Ythbccnpnkfcmfaa
