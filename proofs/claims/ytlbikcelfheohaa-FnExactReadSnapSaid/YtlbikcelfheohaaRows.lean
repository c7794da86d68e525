/-
  No cell of these rows narrows 'for every input' (looked for: loops, veiled, ifaces, maps, wideKeys, modest, calm, conditions, laid).
  DERIVED. THE GIVEN ROWS OF THIS SEAT. 6 by the template 'for every input the law returns true; each argument reads behind the call as it read before'; 0 by the template 'total and deterministic' (their statements: YtlbikcelfheohaaTotals.lean).
  GIVEN WITH THE SEED: the statements are not yours to turn. If you find one false, say at which input.
  Laid BY PROGRAM, IN A SANDBOX (cutbox-rows.mjs): the forced cells as the released guide's own fill.sh prints them over the translation 52fb5f409140dd53… (all of the seat's roots in one cut). By AI agents, Wed Nov 11 2026. No macro, syntax, notation, axiom, sorry.
-/
import Derived.Test.YtlbikcelfheohaaChecked
import GoSem.Claim
import GoSem.ClaimJoined
import GoSem.ClaimMapViews
import Derived.JoinedTies
import Derived.KernelRfl
namespace Go.Proofs.Ytlbikcelfheohaa
/- THE CELL 'sum', in the pinned program and in every row, IS THE sha256 OF THE DUMP (.gsa) THAT YtlbikcelfheohaaProg.lean LOADS. Nothing in Lean hashes anything: it is a label: what it is worth is what the hold of that sum in a sandbox is worth. -/
noncomputable def Try.pinned : Pinned := { name := "ytlbikcelfheohaa", sum := "52fb5f409140dd534aef27d91d524f8529447f08321b7ecde6c908ed94cece3f", checked := Try.checked }
namespace Rows
def none {H : Type} : Left H := { results := [], args := [] }

/-- 'laws.FnExactCommandOk': WHATEVER THE INPUT: true; the input reads as it did. -/
def fnExactCommandOkSpec : ChangeSpec := { name := "fnExactCommandOk", fn := fun _ => fun
  | [d] => { results := [.lit (.bool true)], args := [d] }
  | _ => none }
def fnExactCommandOkRow : OpenClaim := { program := "ytlbikcelfheohaa", sum := "52fb5f409140dd534aef27d91d524f8529447f08321b7ecde6c908ed94cece3f", func := "loop.example/g00117/laws.FnExactCommandOk", spec := "fnExactCommandOk", apart := false }
def FnExactCommandOkSaid : Prop := fnExactCommandOkRow.holds Try.pinned (OpenSpec.ofChange fnExactCommandOkSpec)

/-- ITS FALSE NEIGHBOUR: 'it returns false'. Refute it at one input. -/
def fnExactCommandOkWrong : ChangeSpec := { name := "fnExactCommandOk", fn := fun _ => fun
  | [d] => { results := [.lit (.bool false)], args := [d] }
  | _ => none }
def FnExactCommandOkWrongFalsely : Prop := fnExactCommandOkRow.holds Try.pinned (OpenSpec.ofChange fnExactCommandOkWrong)

/-- 'laws.FnExactCommandText': WHATEVER THE INPUT: true; the input reads as it did. -/
def fnExactCommandTextSpec : ChangeSpec := { name := "fnExactCommandText", fn := fun _ => fun
  | [d] => { results := [.lit (.bool true)], args := [d] }
  | _ => none }
def fnExactCommandTextRow : OpenClaim := { program := "ytlbikcelfheohaa", sum := "52fb5f409140dd534aef27d91d524f8529447f08321b7ecde6c908ed94cece3f", func := "loop.example/g00117/laws.FnExactCommandText", spec := "fnExactCommandText", apart := false }
def FnExactCommandTextSaid : Prop := fnExactCommandTextRow.holds Try.pinned (OpenSpec.ofChange fnExactCommandTextSpec)

/-- ITS FALSE NEIGHBOUR: 'it returns false'. Refute it at one input. -/
def fnExactCommandTextWrong : ChangeSpec := { name := "fnExactCommandText", fn := fun _ => fun
  | [d] => { results := [.lit (.bool false)], args := [d] }
  | _ => none }
def FnExactCommandTextWrongFalsely : Prop := fnExactCommandTextRow.holds Try.pinned (OpenSpec.ofChange fnExactCommandTextWrong)

/-- 'laws.FnExactReadCommand': WHATEVER THE INPUT: true; the input reads as it did. -/
def fnExactReadCommandSpec : ChangeSpec := { name := "fnExactReadCommand", fn := fun _ => fun
  | [d] => { results := [.lit (.bool true)], args := [d] }
  | _ => none }
def fnExactReadCommandRow : OpenClaim := { program := "ytlbikcelfheohaa", sum := "52fb5f409140dd534aef27d91d524f8529447f08321b7ecde6c908ed94cece3f", func := "loop.example/g00117/laws.FnExactReadCommand", spec := "fnExactReadCommand", apart := false }
def FnExactReadCommandSaid : Prop := fnExactReadCommandRow.holds Try.pinned (OpenSpec.ofChange fnExactReadCommandSpec)

/-- ITS FALSE NEIGHBOUR: 'it returns false'. Refute it at one input. -/
def fnExactReadCommandWrong : ChangeSpec := { name := "fnExactReadCommand", fn := fun _ => fun
  | [d] => { results := [.lit (.bool false)], args := [d] }
  | _ => none }
def FnExactReadCommandWrongFalsely : Prop := fnExactReadCommandRow.holds Try.pinned (OpenSpec.ofChange fnExactReadCommandWrong)

/-- 'laws.FnExactMessageOk': WHATEVER THE INPUT: true; the input reads as it did. -/
def fnExactMessageOkSpec : ChangeSpec := { name := "fnExactMessageOk", fn := fun _ => fun
  | [d] => { results := [.lit (.bool true)], args := [d] }
  | _ => none }
def fnExactMessageOkRow : OpenClaim := { program := "ytlbikcelfheohaa", sum := "52fb5f409140dd534aef27d91d524f8529447f08321b7ecde6c908ed94cece3f", func := "loop.example/g00117/laws.FnExactMessageOk", spec := "fnExactMessageOk", apart := false }
def FnExactMessageOkSaid : Prop := fnExactMessageOkRow.holds Try.pinned (OpenSpec.ofChange fnExactMessageOkSpec)

/-- ITS FALSE NEIGHBOUR: 'it returns false'. Refute it at one input. -/
def fnExactMessageOkWrong : ChangeSpec := { name := "fnExactMessageOk", fn := fun _ => fun
  | [d] => { results := [.lit (.bool false)], args := [d] }
  | _ => none }
def FnExactMessageOkWrongFalsely : Prop := fnExactMessageOkRow.holds Try.pinned (OpenSpec.ofChange fnExactMessageOkWrong)

/-- 'laws.FnExactReadSnap': WHATEVER THE INPUT: true; the input reads as it did. -/
def fnExactReadSnapSpec : ChangeSpec := { name := "fnExactReadSnap", fn := fun _ => fun
  | [d] => { results := [.lit (.bool true)], args := [d] }
  | _ => none }
def fnExactReadSnapRow : OpenClaim := { program := "ytlbikcelfheohaa", sum := "52fb5f409140dd534aef27d91d524f8529447f08321b7ecde6c908ed94cece3f", func := "loop.example/g00117/laws.FnExactReadSnap", spec := "fnExactReadSnap", apart := false }
def FnExactReadSnapSaid : Prop := fnExactReadSnapRow.holds Try.pinned (OpenSpec.ofChange fnExactReadSnapSpec)

/-- ITS FALSE NEIGHBOUR: 'it returns false'. Refute it at one input. -/
def fnExactReadSnapWrong : ChangeSpec := { name := "fnExactReadSnap", fn := fun _ => fun
  | [d] => { results := [.lit (.bool false)], args := [d] }
  | _ => none }
def FnExactReadSnapWrongFalsely : Prop := fnExactReadSnapRow.holds Try.pinned (OpenSpec.ofChange fnExactReadSnapWrong)

/-- 'laws.FnExactLeaseOf': WHATEVER THE INPUT: true; the input reads as it did. -/
def fnExactLeaseOfSpec : ChangeSpec := { name := "fnExactLeaseOf", fn := fun _ => fun
  | [d1, d2] => { results := [.lit (.bool true)], args := [d1, d2] }
  | _ => none }
def fnExactLeaseOfRow : OpenClaim := { program := "ytlbikcelfheohaa", sum := "52fb5f409140dd534aef27d91d524f8529447f08321b7ecde6c908ed94cece3f", func := "loop.example/g00117/laws.FnExactLeaseOf", spec := "fnExactLeaseOf", unfollowed := true, recurses := true, apart := false }
def FnExactLeaseOfSaid : Prop := fnExactLeaseOfRow.holds Try.pinned (OpenSpec.ofChange fnExactLeaseOfSpec)

/-- ITS FALSE NEIGHBOUR: 'it returns false'. Refute it at one input. -/
def fnExactLeaseOfWrong : ChangeSpec := { name := "fnExactLeaseOf", fn := fun _ => fun
  | [d1, d2] => { results := [.lit (.bool false)], args := [d1, d2] }
  | _ => none }
def FnExactLeaseOfWrongFalsely : Prop := fnExactLeaseOfRow.holds Try.pinned (OpenSpec.ofChange fnExactLeaseOfWrong)

/- THE SECOND FORM. 'bulk': how many values and letters a reading holds, each counted each time it is reached (what is shared counts as often as it is met; a slice's spare places count too). A statement '..UptoSaid' is the law's where the arguments, and the package variables that the reading takes, are together of bulk at most 1048576: NARROWER than '..Said'. Prove '..Said' where nothing that the law and all that it calls make is longer than what came in: it says more and counts as full. Else prove '..UptoSaid'. A law counts once. -/
mutual
def uptoBulk {H : Type} : DataW H → Nat
  | .lit (.string bytes) => bytes.length + 1
  | .lit _ => 1
  | .nil => 1
  | .ptr d => uptoBulk d + 1
  | .slice elems spare => uptoBulkAll elems + uptoBulkAll spare + 1
  | .agg parts => uptoBulkAll parts + 1
  | .iface _ d => uptoBulk d + 1
  | .map entries => uptoBulkEntries entries + 1
  | .held _ => 1
def uptoBulkAll {H : Type} : List (DataW H) → Nat
  | [] => 0
  | d :: r => uptoBulk d + uptoBulkAll r
def uptoBulkEntries {H : Type} : List (Lit × DataW H) → Nat
  | [] => 0
  | x :: r => uptoBulkEntry x + uptoBulkEntries r
def uptoBulkEntry {H : Type} : Lit × DataW H → Nat
  | (.string bytes, d) => bytes.length + uptoBulk d + 1
  | (_, d) => uptoBulk d + 1
 end
def uptoSmall : (H : Type) → List (DataW H) → Bool := fun _ ds => decide (uptoBulkAll ds ≤ 1048576)
def OpenSpec.upto (s : _root_.Go.ChangeSpec) : _root_.Go.OpenSpec := { _root_.Go.OpenSpec.ofChange s with cond := some uptoSmall }

/-- 'laws.FnExactCommandOk', WHERE WHAT IT READS IS OF BULK AT MOST 1048576: true; the input reads as it did. -/
def fnExactCommandOkUptoRow : OpenClaim := { program := "ytlbikcelfheohaa", sum := "52fb5f409140dd534aef27d91d524f8529447f08321b7ecde6c908ed94cece3f", func := "loop.example/g00117/laws.FnExactCommandOk", spec := "fnExactCommandOk", apart := false, narrowed := true }
def FnExactCommandOkUptoSaid : Prop := fnExactCommandOkUptoRow.holds Try.pinned (OpenSpec.upto fnExactCommandOkSpec)

/-- 'laws.FnExactCommandText', WHERE WHAT IT READS IS OF BULK AT MOST 1048576: true; the input reads as it did. -/
def fnExactCommandTextUptoRow : OpenClaim := { program := "ytlbikcelfheohaa", sum := "52fb5f409140dd534aef27d91d524f8529447f08321b7ecde6c908ed94cece3f", func := "loop.example/g00117/laws.FnExactCommandText", spec := "fnExactCommandText", apart := false, narrowed := true }
def FnExactCommandTextUptoSaid : Prop := fnExactCommandTextUptoRow.holds Try.pinned (OpenSpec.upto fnExactCommandTextSpec)

/-- 'laws.FnExactReadCommand', WHERE WHAT IT READS IS OF BULK AT MOST 1048576: true; the input reads as it did. -/
def fnExactReadCommandUptoRow : OpenClaim := { program := "ytlbikcelfheohaa", sum := "52fb5f409140dd534aef27d91d524f8529447f08321b7ecde6c908ed94cece3f", func := "loop.example/g00117/laws.FnExactReadCommand", spec := "fnExactReadCommand", apart := false, narrowed := true }
def FnExactReadCommandUptoSaid : Prop := fnExactReadCommandUptoRow.holds Try.pinned (OpenSpec.upto fnExactReadCommandSpec)

/-- 'laws.FnExactMessageOk', WHERE WHAT IT READS IS OF BULK AT MOST 1048576: true; the input reads as it did. -/
def fnExactMessageOkUptoRow : OpenClaim := { program := "ytlbikcelfheohaa", sum := "52fb5f409140dd534aef27d91d524f8529447f08321b7ecde6c908ed94cece3f", func := "loop.example/g00117/laws.FnExactMessageOk", spec := "fnExactMessageOk", apart := false, narrowed := true }
def FnExactMessageOkUptoSaid : Prop := fnExactMessageOkUptoRow.holds Try.pinned (OpenSpec.upto fnExactMessageOkSpec)

/-- 'laws.FnExactReadSnap', WHERE WHAT IT READS IS OF BULK AT MOST 1048576: true; the input reads as it did. -/
def fnExactReadSnapUptoRow : OpenClaim := { program := "ytlbikcelfheohaa", sum := "52fb5f409140dd534aef27d91d524f8529447f08321b7ecde6c908ed94cece3f", func := "loop.example/g00117/laws.FnExactReadSnap", spec := "fnExactReadSnap", apart := false, narrowed := true }
def FnExactReadSnapUptoSaid : Prop := fnExactReadSnapUptoRow.holds Try.pinned (OpenSpec.upto fnExactReadSnapSpec)

/-- 'laws.FnExactLeaseOf', WHERE WHAT IT READS IS OF BULK AT MOST 1048576: true; the input reads as it did. -/
def fnExactLeaseOfUptoRow : OpenClaim := { program := "ytlbikcelfheohaa", sum := "52fb5f409140dd534aef27d91d524f8529447f08321b7ecde6c908ed94cece3f", func := "loop.example/g00117/laws.FnExactLeaseOf", spec := "fnExactLeaseOf", unfollowed := true, recurses := true, apart := false, narrowed := true }
def FnExactLeaseOfUptoSaid : Prop := fnExactLeaseOfUptoRow.holds Try.pinned (OpenSpec.upto fnExactLeaseOfSpec)

end Rows
end Go.Proofs.Ytlbikcelfheohaa
