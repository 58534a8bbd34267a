/-
  No cell of these rows narrows 'for every input' (looked for: loops, veiled, ifaces, maps, wideKeys, modest, calm, conditions, laid).
  DERIVED. THE GIVEN ROWS OF THIS SEAT. 4 by the template 'for every input the law returns true; each argument reads behind the call as it read before'; 0 by the template 'total and deterministic' (their statements: YtobdpieijgiaoaaTotals.lean).
  GIVEN WITH THE SEED: the statements are not yours to turn. If you find one false, say at which input.
  Laid BY PROGRAM, IN A SANDBOX (cutbox-rows.mjs): the forced cells as the released guide's own fill.sh prints them over the translation 2ffb7c1f4a6c658c… (all of the seat's roots in one cut). By AI agents, Wed Nov 11 2026. No macro, syntax, notation, axiom, sorry.
-/
import Derived.Test.YtobdpieijgiaoaaChecked
import GoSem.Claim
import GoSem.ClaimJoined
import GoSem.ClaimMapViews
import Derived.JoinedTies
import Derived.KernelRfl
namespace Go.Proofs.Ytobdpieijgiaoaa
/- THE CELL 'sum', in the pinned program and in every row, IS THE sha256 OF THE DUMP (.gsa) THAT YtobdpieijgiaoaaProg.lean LOADS. Nothing in Lean hashes anything: it is a label: what it is worth is what the hold of that sum in a sandbox is worth. -/
noncomputable def Try.pinned : Pinned := { name := "ytobdpieijgiaoaa", sum := "2ffb7c1f4a6c658c6579489f4d0c9500510e89d10bfea88519af868e35b8b0b7", checked := Try.checked }
namespace Rows
def none {H : Type} : Left H := { results := [], args := [] }

/-- 'sluicewaylaw17.CursorNobody': WHATEVER THE INPUT: true; the input reads as it did. -/
def cursorNobodySpec : ChangeSpec := { name := "cursorNobody", fn := fun _ => fun
  | [d1, d2, d3] => { results := [.lit (.bool true)], args := [d1, d2, d3] }
  | _ => none }
def cursorNobodyRow : OpenClaim := { program := "ytobdpieijgiaoaa", sum := "2ffb7c1f4a6c658c6579489f4d0c9500510e89d10bfea88519af868e35b8b0b7", func := "sluiceway/sluicewaylaw17.CursorNobody", spec := "cursorNobody", unfollowed := true, recurses := true, apart := false }
def CursorNobodySaid : Prop := cursorNobodyRow.holds Try.pinned (OpenSpec.ofChange cursorNobodySpec)

/-- ITS FALSE NEIGHBOUR: 'it returns false'. Refute it at one input. -/
def cursorNobodyWrong : ChangeSpec := { name := "cursorNobody", fn := fun _ => fun
  | [d1, d2, d3] => { results := [.lit (.bool false)], args := [d1, d2, d3] }
  | _ => none }
def CursorNobodyWrongFalsely : Prop := cursorNobodyRow.holds Try.pinned (OpenSpec.ofChange cursorNobodyWrong)

/-- 'sluicewaylaw17.CursorTells': WHATEVER THE INPUT: true; the input reads as it did. -/
def cursorTellsSpec : ChangeSpec := { name := "cursorTells", fn := fun _ => fun
  | [d1, d2, d3] => { results := [.lit (.bool true)], args := [d1, d2, d3] }
  | _ => none }
def cursorTellsRow : OpenClaim := { program := "ytobdpieijgiaoaa", sum := "2ffb7c1f4a6c658c6579489f4d0c9500510e89d10bfea88519af868e35b8b0b7", func := "sluiceway/sluicewaylaw17.CursorTells", spec := "cursorTells", unfollowed := true, recurses := true, apart := false }
def CursorTellsSaid : Prop := cursorTellsRow.holds Try.pinned (OpenSpec.ofChange cursorTellsSpec)

/-- ITS FALSE NEIGHBOUR: 'it returns false'. Refute it at one input. -/
def cursorTellsWrong : ChangeSpec := { name := "cursorTells", fn := fun _ => fun
  | [d1, d2, d3] => { results := [.lit (.bool false)], args := [d1, d2, d3] }
  | _ => none }
def CursorTellsWrongFalsely : Prop := cursorTellsRow.holds Try.pinned (OpenSpec.ofChange cursorTellsWrong)

/-- 'sluicewaylaw17.CursorClaims': WHATEVER THE INPUT: true; the input reads as it did. -/
def cursorClaimsSpec : ChangeSpec := { name := "cursorClaims", fn := fun _ => fun
  | [d1, d2, d3] => { results := [.lit (.bool true)], args := [d1, d2, d3] }
  | _ => none }
def cursorClaimsRow : OpenClaim := { program := "ytobdpieijgiaoaa", sum := "2ffb7c1f4a6c658c6579489f4d0c9500510e89d10bfea88519af868e35b8b0b7", func := "sluiceway/sluicewaylaw17.CursorClaims", spec := "cursorClaims", unfollowed := true, recurses := true, apart := false }
def CursorClaimsSaid : Prop := cursorClaimsRow.holds Try.pinned (OpenSpec.ofChange cursorClaimsSpec)

/-- ITS FALSE NEIGHBOUR: 'it returns false'. Refute it at one input. -/
def cursorClaimsWrong : ChangeSpec := { name := "cursorClaims", fn := fun _ => fun
  | [d1, d2, d3] => { results := [.lit (.bool false)], args := [d1, d2, d3] }
  | _ => none }
def CursorClaimsWrongFalsely : Prop := cursorClaimsRow.holds Try.pinned (OpenSpec.ofChange cursorClaimsWrong)

/-- 'sluicewaylaw17.CursorSteps': WHATEVER THE INPUT: true; the input reads as it did. -/
def cursorStepsSpec : ChangeSpec := { name := "cursorSteps", fn := fun _ => fun
  | [d1, d2, d3] => { results := [.lit (.bool true)], args := [d1, d2, d3] }
  | _ => none }
def cursorStepsRow : OpenClaim := { program := "ytobdpieijgiaoaa", sum := "2ffb7c1f4a6c658c6579489f4d0c9500510e89d10bfea88519af868e35b8b0b7", func := "sluiceway/sluicewaylaw17.CursorSteps", spec := "cursorSteps", unfollowed := true, recurses := true, apart := false }
def CursorStepsSaid : Prop := cursorStepsRow.holds Try.pinned (OpenSpec.ofChange cursorStepsSpec)

/-- ITS FALSE NEIGHBOUR: 'it returns false'. Refute it at one input. -/
def cursorStepsWrong : ChangeSpec := { name := "cursorSteps", fn := fun _ => fun
  | [d1, d2, d3] => { results := [.lit (.bool false)], args := [d1, d2, d3] }
  | _ => none }
def CursorStepsWrongFalsely : Prop := cursorStepsRow.holds Try.pinned (OpenSpec.ofChange cursorStepsWrong)

/- THE SECOND FORM. 'bulk': how many values and letters a reading holds, each counted each time it is reached (what is shared counts as often as it is met; a slice's spare places count too). A statement '..UptoSaid' is the law's where the arguments, and the package variables that the reading takes, are together of bulk at most 1048576: NARROWER than '..Said'. Prove '..Said' where nothing that the law and all that it calls make is longer than what came in: it says more and counts as full. Else prove '..UptoSaid'. A law counts once. -/
mutual
def uptoBulk {H : Type} : DataW H → Nat
  | .lit (.string bytes) => bytes.length + 1
  | .lit _ => 1
  | .nil => 1
  | .ptr d => uptoBulk d + 1
  | .slice elems spare => uptoBulkAll elems + uptoBulkAll spare + 1
  | .agg parts => uptoBulkAll parts + 1
  | .iface _ d => uptoBulk d + 1
  | .map entries => uptoBulkEntries entries + 1
  | .held _ => 1
def uptoBulkAll {H : Type} : List (DataW H) → Nat
  | [] => 0
  | d :: r => uptoBulk d + uptoBulkAll r
def uptoBulkEntries {H : Type} : List (Lit × DataW H) → Nat
  | [] => 0
  | x :: r => uptoBulkEntry x + uptoBulkEntries r
def uptoBulkEntry {H : Type} : Lit × DataW H → Nat
  | (.string bytes, d) => bytes.length + uptoBulk d + 1
  | (_, d) => uptoBulk d + 1
 end
def uptoSmall : (H : Type) → List (DataW H) → Bool := fun _ ds => decide (uptoBulkAll ds ≤ 1048576)
def OpenSpec.upto (s : _root_.Go.ChangeSpec) : _root_.Go.OpenSpec := { _root_.Go.OpenSpec.ofChange s with cond := some uptoSmall }

/-- 'sluicewaylaw17.CursorNobody', WHERE WHAT IT READS IS OF BULK AT MOST 1048576: true; the input reads as it did. -/
def cursorNobodyUptoRow : OpenClaim := { program := "ytobdpieijgiaoaa", sum := "2ffb7c1f4a6c658c6579489f4d0c9500510e89d10bfea88519af868e35b8b0b7", func := "sluiceway/sluicewaylaw17.CursorNobody", spec := "cursorNobody", unfollowed := true, recurses := true, apart := false, narrowed := true }
def CursorNobodyUptoSaid : Prop := cursorNobodyUptoRow.holds Try.pinned (OpenSpec.upto cursorNobodySpec)

/-- 'sluicewaylaw17.CursorTells', WHERE WHAT IT READS IS OF BULK AT MOST 1048576: true; the input reads as it did. -/
def cursorTellsUptoRow : OpenClaim := { program := "ytobdpieijgiaoaa", sum := "2ffb7c1f4a6c658c6579489f4d0c9500510e89d10bfea88519af868e35b8b0b7", func := "sluiceway/sluicewaylaw17.CursorTells", spec := "cursorTells", unfollowed := true, recurses := true, apart := false, narrowed := true }
def CursorTellsUptoSaid : Prop := cursorTellsUptoRow.holds Try.pinned (OpenSpec.upto cursorTellsSpec)

/-- 'sluicewaylaw17.CursorClaims', WHERE WHAT IT READS IS OF BULK AT MOST 1048576: true; the input reads as it did. -/
def cursorClaimsUptoRow : OpenClaim := { program := "ytobdpieijgiaoaa", sum := "2ffb7c1f4a6c658c6579489f4d0c9500510e89d10bfea88519af868e35b8b0b7", func := "sluiceway/sluicewaylaw17.CursorClaims", spec := "cursorClaims", unfollowed := true, recurses := true, apart := false, narrowed := true }
def CursorClaimsUptoSaid : Prop := cursorClaimsUptoRow.holds Try.pinned (OpenSpec.upto cursorClaimsSpec)

/-- 'sluicewaylaw17.CursorSteps', WHERE WHAT IT READS IS OF BULK AT MOST 1048576: true; the input reads as it did. -/
def cursorStepsUptoRow : OpenClaim := { program := "ytobdpieijgiaoaa", sum := "2ffb7c1f4a6c658c6579489f4d0c9500510e89d10bfea88519af868e35b8b0b7", func := "sluiceway/sluicewaylaw17.CursorSteps", spec := "cursorSteps", unfollowed := true, recurses := true, apart := false, narrowed := true }
def CursorStepsUptoSaid : Prop := cursorStepsUptoRow.holds Try.pinned (OpenSpec.upto cursorStepsSpec)

end Rows
end Go.Proofs.Ytobdpieijgiaoaa
