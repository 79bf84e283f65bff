/-
  No cell of these rows narrows 'for every input' (looked for: loops, veiled, ifaces, maps, wideKeys, modest, calm, conditions, laid).
  DERIVED. THE GIVEN ROWS OF THIS SEAT. 12 by the template 'for every input the law returns true; each argument reads behind the call as it read before'; 0 by the template 'total and deterministic' (their statements: YtfalaopljodmnaaTotals.lean).
  GIVEN WITH THE SEED: the statements are not yours to turn. If you find one false, say at which input.
  Laid BY PROGRAM, IN A SANDBOX (cutbox-rows.mjs): the forced cells as the released guide's own fill.sh prints them over the translation eadd694e48dff5d7… (all of the seat's roots in one cut). By AI agents, Wed Nov 11 2026. No macro, syntax, notation, axiom, sorry.
-/
import Derived.Test.YtfalaopljodmnaaChecked
import GoSem.Claim
import GoSem.ClaimJoined
import GoSem.ClaimMapViews
import Derived.JoinedTies
import Derived.KernelRfl
namespace Go.Proofs.Ytfalaopljodmnaa
/- THE CELL 'sum', in the pinned program and in every row, IS THE sha256 OF THE DUMP (.gsa) THAT YtfalaopljodmnaaProg.lean LOADS. Nothing in Lean hashes anything: it is a label: what it is worth is what the hold of that sum in a sandbox is worth. -/
noncomputable def Try.pinned : Pinned := { name := "ytfalaopljodmnaa", sum := "eadd694e48dff5d7f5542422aad4b075354ea216152b3aaff17a1685ef4d97dc", checked := Try.checked }
namespace Rows
def none {H : Type} : Left H := { results := [], args := [] }

/-- 'linnetlaw3.CodecWrites': WHATEVER THE INPUT: true; the input reads as it did. -/
def codecWritesSpec : ChangeSpec := { name := "codecWrites", fn := fun _ => fun
  | [d] => { results := [.lit (.bool true)], args := [d] }
  | _ => none }
def codecWritesRow : OpenClaim := { program := "ytfalaopljodmnaa", sum := "eadd694e48dff5d7f5542422aad4b075354ea216152b3aaff17a1685ef4d97dc", func := "linnet/linnetlaw3.CodecWrites", spec := "codecWrites", apart := false }
def CodecWritesSaid : Prop := codecWritesRow.holds Try.pinned (OpenSpec.ofChange codecWritesSpec)

/-- ITS FALSE NEIGHBOUR: 'it returns false'. Refute it at one input. -/
def codecWritesWrong : ChangeSpec := { name := "codecWrites", fn := fun _ => fun
  | [d] => { results := [.lit (.bool false)], args := [d] }
  | _ => none }
def CodecWritesWrongFalsely : Prop := codecWritesRow.holds Try.pinned (OpenSpec.ofChange codecWritesWrong)

/-- 'linnetlaw3.CodecReads': WHATEVER THE INPUT: true; the input reads as it did. -/
def codecReadsSpec : ChangeSpec := { name := "codecReads", fn := fun _ => fun
  | [d1, d2, d3] => { results := [.lit (.bool true)], args := [d1, d2, d3] }
  | _ => none }
def codecReadsRow : OpenClaim := { program := "ytfalaopljodmnaa", sum := "eadd694e48dff5d7f5542422aad4b075354ea216152b3aaff17a1685ef4d97dc", func := "linnet/linnetlaw3.CodecReads", spec := "codecReads", apart := false }
def CodecReadsSaid : Prop := codecReadsRow.holds Try.pinned (OpenSpec.ofChange codecReadsSpec)

/-- ITS FALSE NEIGHBOUR: 'it returns false'. Refute it at one input. -/
def codecReadsWrong : ChangeSpec := { name := "codecReads", fn := fun _ => fun
  | [d1, d2, d3] => { results := [.lit (.bool false)], args := [d1, d2, d3] }
  | _ => none }
def CodecReadsWrongFalsely : Prop := codecReadsRow.holds Try.pinned (OpenSpec.ofChange codecReadsWrong)

/-- 'linnetlaw3.CodecLimits': WHATEVER THE INPUT: true; the input reads as it did. -/
def codecLimitsSpec : ChangeSpec := { name := "codecLimits", fn := fun _ => fun
  | [d1, d2, d3] => { results := [.lit (.bool true)], args := [d1, d2, d3] }
  | _ => none }
def codecLimitsRow : OpenClaim := { program := "ytfalaopljodmnaa", sum := "eadd694e48dff5d7f5542422aad4b075354ea216152b3aaff17a1685ef4d97dc", func := "linnet/linnetlaw3.CodecLimits", spec := "codecLimits", apart := false }
def CodecLimitsSaid : Prop := codecLimitsRow.holds Try.pinned (OpenSpec.ofChange codecLimitsSpec)

/-- ITS FALSE NEIGHBOUR: 'it returns false'. Refute it at one input. -/
def codecLimitsWrong : ChangeSpec := { name := "codecLimits", fn := fun _ => fun
  | [d1, d2, d3] => { results := [.lit (.bool false)], args := [d1, d2, d3] }
  | _ => none }
def CodecLimitsWrongFalsely : Prop := codecLimitsRow.holds Try.pinned (OpenSpec.ofChange codecLimitsWrong)

/-- 'linnetlaw3.CodecBack': WHATEVER THE INPUT: true; the input reads as it did. -/
def codecBackSpec : ChangeSpec := { name := "codecBack", fn := fun _ => fun
  | [d] => { results := [.lit (.bool true)], args := [d] }
  | _ => none }
def codecBackRow : OpenClaim := { program := "ytfalaopljodmnaa", sum := "eadd694e48dff5d7f5542422aad4b075354ea216152b3aaff17a1685ef4d97dc", func := "linnet/linnetlaw3.CodecBack", spec := "codecBack", apart := false }
def CodecBackSaid : Prop := codecBackRow.holds Try.pinned (OpenSpec.ofChange codecBackSpec)

/-- ITS FALSE NEIGHBOUR: 'it returns false'. Refute it at one input. -/
def codecBackWrong : ChangeSpec := { name := "codecBack", fn := fun _ => fun
  | [d] => { results := [.lit (.bool false)], args := [d] }
  | _ => none }
def CodecBackWrongFalsely : Prop := codecBackRow.holds Try.pinned (OpenSpec.ofChange codecBackWrong)

/-- 'linnetlaw9.VoteAsks': WHATEVER THE INPUT: true; the input reads as it did. -/
def voteAsksSpec : ChangeSpec := { name := "voteAsks", fn := fun _ => fun
  | [d] => { results := [.lit (.bool true)], args := [d] }
  | _ => none }
def voteAsksRow : OpenClaim := { program := "ytfalaopljodmnaa", sum := "eadd694e48dff5d7f5542422aad4b075354ea216152b3aaff17a1685ef4d97dc", func := "linnet/linnetlaw9.VoteAsks", spec := "voteAsks", apart := false }
def VoteAsksSaid : Prop := voteAsksRow.holds Try.pinned (OpenSpec.ofChange voteAsksSpec)

/-- ITS FALSE NEIGHBOUR: 'it returns false'. Refute it at one input. -/
def voteAsksWrong : ChangeSpec := { name := "voteAsks", fn := fun _ => fun
  | [d] => { results := [.lit (.bool false)], args := [d] }
  | _ => none }
def VoteAsksWrongFalsely : Prop := voteAsksRow.holds Try.pinned (OpenSpec.ofChange voteAsksWrong)

/-- 'linnetlaw9.VoteForms': WHATEVER THE INPUT: true; the input reads as it did. -/
def voteFormsSpec : ChangeSpec := { name := "voteForms", fn := fun _ => fun
  | [d1, d2, d3] => { results := [.lit (.bool true)], args := [d1, d2, d3] }
  | _ => none }
def voteFormsRow : OpenClaim := { program := "ytfalaopljodmnaa", sum := "eadd694e48dff5d7f5542422aad4b075354ea216152b3aaff17a1685ef4d97dc", func := "linnet/linnetlaw9.VoteForms", spec := "voteForms", apart := false }
def VoteFormsSaid : Prop := voteFormsRow.holds Try.pinned (OpenSpec.ofChange voteFormsSpec)

/-- ITS FALSE NEIGHBOUR: 'it returns false'. Refute it at one input. -/
def voteFormsWrong : ChangeSpec := { name := "voteForms", fn := fun _ => fun
  | [d1, d2, d3] => { results := [.lit (.bool false)], args := [d1, d2, d3] }
  | _ => none }
def VoteFormsWrongFalsely : Prop := voteFormsRow.holds Try.pinned (OpenSpec.ofChange voteFormsWrong)

/-- 'linnetlaw9.VoteOne': WHATEVER THE INPUT: true; the input reads as it did. -/
def voteOneSpec : ChangeSpec := { name := "voteOne", fn := fun _ => fun
  | [d1, d2, d3, d4] => { results := [.lit (.bool true)], args := [d1, d2, d3, d4] }
  | _ => none }
def voteOneRow : OpenClaim := { program := "ytfalaopljodmnaa", sum := "eadd694e48dff5d7f5542422aad4b075354ea216152b3aaff17a1685ef4d97dc", func := "linnet/linnetlaw9.VoteOne", spec := "voteOne", apart := false }
def VoteOneSaid : Prop := voteOneRow.holds Try.pinned (OpenSpec.ofChange voteOneSpec)

/-- ITS FALSE NEIGHBOUR: 'it returns false'. Refute it at one input. -/
def voteOneWrong : ChangeSpec := { name := "voteOne", fn := fun _ => fun
  | [d1, d2, d3, d4] => { results := [.lit (.bool false)], args := [d1, d2, d3, d4] }
  | _ => none }
def VoteOneWrongFalsely : Prop := voteOneRow.holds Try.pinned (OpenSpec.ofChange voteOneWrong)

/-- 'linnetlaw9.VoteSteps': WHATEVER THE INPUT: true; the input reads as it did. -/
def voteStepsSpec : ChangeSpec := { name := "voteSteps", fn := fun _ => fun
  | [d1, d2, d3, d4, d5] => { results := [.lit (.bool true)], args := [d1, d2, d3, d4, d5] }
  | _ => none }
def voteStepsRow : OpenClaim := { program := "ytfalaopljodmnaa", sum := "eadd694e48dff5d7f5542422aad4b075354ea216152b3aaff17a1685ef4d97dc", func := "linnet/linnetlaw9.VoteSteps", spec := "voteSteps", apart := false }
def VoteStepsSaid : Prop := voteStepsRow.holds Try.pinned (OpenSpec.ofChange voteStepsSpec)

/-- ITS FALSE NEIGHBOUR: 'it returns false'. Refute it at one input. -/
def voteStepsWrong : ChangeSpec := { name := "voteSteps", fn := fun _ => fun
  | [d1, d2, d3, d4, d5] => { results := [.lit (.bool false)], args := [d1, d2, d3, d4, d5] }
  | _ => none }
def VoteStepsWrongFalsely : Prop := voteStepsRow.holds Try.pinned (OpenSpec.ofChange voteStepsWrong)

/-- 'linnetlaw20.SessionOnce': WHATEVER THE INPUT: true; the input reads as it did. -/
def sessionOnceSpec : ChangeSpec := { name := "sessionOnce", fn := fun _ => fun
  | [d1, d2] => { results := [.lit (.bool true)], args := [d1, d2] }
  | _ => none }
def sessionOnceRow : OpenClaim := { program := "ytfalaopljodmnaa", sum := "eadd694e48dff5d7f5542422aad4b075354ea216152b3aaff17a1685ef4d97dc", func := "linnet/linnetlaw20.SessionOnce", spec := "sessionOnce", apart := false }
def SessionOnceSaid : Prop := sessionOnceRow.holds Try.pinned (OpenSpec.ofChange sessionOnceSpec)

/-- ITS FALSE NEIGHBOUR: 'it returns false'. Refute it at one input. -/
def sessionOnceWrong : ChangeSpec := { name := "sessionOnce", fn := fun _ => fun
  | [d1, d2] => { results := [.lit (.bool false)], args := [d1, d2] }
  | _ => none }
def SessionOnceWrongFalsely : Prop := sessionOnceRow.holds Try.pinned (OpenSpec.ofChange sessionOnceWrong)

/-- 'linnetlaw20.SessionFrames': WHATEVER THE INPUT: true; the input reads as it did. -/
def sessionFramesSpec : ChangeSpec := { name := "sessionFrames", fn := fun _ => fun
  | [d1, d2, d3, d4] => { results := [.lit (.bool true)], args := [d1, d2, d3, d4] }
  | _ => none }
def sessionFramesRow : OpenClaim := { program := "ytfalaopljodmnaa", sum := "eadd694e48dff5d7f5542422aad4b075354ea216152b3aaff17a1685ef4d97dc", func := "linnet/linnetlaw20.SessionFrames", spec := "sessionFrames", apart := false }
def SessionFramesSaid : Prop := sessionFramesRow.holds Try.pinned (OpenSpec.ofChange sessionFramesSpec)

/-- ITS FALSE NEIGHBOUR: 'it returns false'. Refute it at one input. -/
def sessionFramesWrong : ChangeSpec := { name := "sessionFrames", fn := fun _ => fun
  | [d1, d2, d3, d4] => { results := [.lit (.bool false)], args := [d1, d2, d3, d4] }
  | _ => none }
def SessionFramesWrongFalsely : Prop := sessionFramesRow.holds Try.pinned (OpenSpec.ofChange sessionFramesWrong)

/-- 'linnetlaw20.SessionQuiet': WHATEVER THE INPUT: true; the input reads as it did. -/
def sessionQuietSpec : ChangeSpec := { name := "sessionQuiet", fn := fun _ => fun
  | [d1, d2, d3] => { results := [.lit (.bool true)], args := [d1, d2, d3] }
  | _ => none }
def sessionQuietRow : OpenClaim := { program := "ytfalaopljodmnaa", sum := "eadd694e48dff5d7f5542422aad4b075354ea216152b3aaff17a1685ef4d97dc", func := "linnet/linnetlaw20.SessionQuiet", spec := "sessionQuiet", apart := false }
def SessionQuietSaid : Prop := sessionQuietRow.holds Try.pinned (OpenSpec.ofChange sessionQuietSpec)

/-- ITS FALSE NEIGHBOUR: 'it returns false'. Refute it at one input. -/
def sessionQuietWrong : ChangeSpec := { name := "sessionQuiet", fn := fun _ => fun
  | [d1, d2, d3] => { results := [.lit (.bool false)], args := [d1, d2, d3] }
  | _ => none }
def SessionQuietWrongFalsely : Prop := sessionQuietRow.holds Try.pinned (OpenSpec.ofChange sessionQuietWrong)

/-- 'linnetlaw20.SessionEpochs': WHATEVER THE INPUT: true; the input reads as it did. -/
def sessionEpochsSpec : ChangeSpec := { name := "sessionEpochs", fn := fun _ => fun
  | [d1, d2, d3] => { results := [.lit (.bool true)], args := [d1, d2, d3] }
  | _ => none }
def sessionEpochsRow : OpenClaim := { program := "ytfalaopljodmnaa", sum := "eadd694e48dff5d7f5542422aad4b075354ea216152b3aaff17a1685ef4d97dc", func := "linnet/linnetlaw20.SessionEpochs", spec := "sessionEpochs", apart := false }
def SessionEpochsSaid : Prop := sessionEpochsRow.holds Try.pinned (OpenSpec.ofChange sessionEpochsSpec)

/-- ITS FALSE NEIGHBOUR: 'it returns false'. Refute it at one input. -/
def sessionEpochsWrong : ChangeSpec := { name := "sessionEpochs", fn := fun _ => fun
  | [d1, d2, d3] => { results := [.lit (.bool false)], args := [d1, d2, d3] }
  | _ => none }
def SessionEpochsWrongFalsely : Prop := sessionEpochsRow.holds Try.pinned (OpenSpec.ofChange sessionEpochsWrong)

/- THE SECOND FORM. 'bulk': how many values and letters a reading holds, each counted each time it is reached (what is shared counts as often as it is met; a slice's spare places count too). A statement '..UptoSaid' is the law's where the arguments, and the package variables that the reading takes, are together of bulk at most 1048576: NARROWER than '..Said'. Prove '..Said' where nothing that the law and all that it calls make is longer than what came in: it says more and counts as full. Else prove '..UptoSaid'. A law counts once. -/
mutual
def uptoBulk {H : Type} : DataW H → Nat
  | .lit (.string bytes) => bytes.length + 1
  | .lit _ => 1
  | .nil => 1
  | .ptr d => uptoBulk d + 1
  | .slice elems spare => uptoBulkAll elems + uptoBulkAll spare + 1
  | .agg parts => uptoBulkAll parts + 1
  | .iface _ d => uptoBulk d + 1
  | .map entries => uptoBulkEntries entries + 1
  | .held _ => 1
def uptoBulkAll {H : Type} : List (DataW H) → Nat
  | [] => 0
  | d :: r => uptoBulk d + uptoBulkAll r
def uptoBulkEntries {H : Type} : List (Lit × DataW H) → Nat
  | [] => 0
  | x :: r => uptoBulkEntry x + uptoBulkEntries r
def uptoBulkEntry {H : Type} : Lit × DataW H → Nat
  | (.string bytes, d) => bytes.length + uptoBulk d + 1
  | (_, d) => uptoBulk d + 1
 end
def uptoSmall : (H : Type) → List (DataW H) → Bool := fun _ ds => decide (uptoBulkAll ds ≤ 1048576)
def OpenSpec.upto (s : _root_.Go.ChangeSpec) : _root_.Go.OpenSpec := { _root_.Go.OpenSpec.ofChange s with cond := some uptoSmall }

/-- 'linnetlaw3.CodecWrites', WHERE WHAT IT READS IS OF BULK AT MOST 1048576: true; the input reads as it did. -/
def codecWritesUptoRow : OpenClaim := { program := "ytfalaopljodmnaa", sum := "eadd694e48dff5d7f5542422aad4b075354ea216152b3aaff17a1685ef4d97dc", func := "linnet/linnetlaw3.CodecWrites", spec := "codecWrites", apart := false, narrowed := true }
def CodecWritesUptoSaid : Prop := codecWritesUptoRow.holds Try.pinned (OpenSpec.upto codecWritesSpec)

/-- 'linnetlaw3.CodecReads', WHERE WHAT IT READS IS OF BULK AT MOST 1048576: true; the input reads as it did. -/
def codecReadsUptoRow : OpenClaim := { program := "ytfalaopljodmnaa", sum := "eadd694e48dff5d7f5542422aad4b075354ea216152b3aaff17a1685ef4d97dc", func := "linnet/linnetlaw3.CodecReads", spec := "codecReads", apart := false, narrowed := true }
def CodecReadsUptoSaid : Prop := codecReadsUptoRow.holds Try.pinned (OpenSpec.upto codecReadsSpec)

/-- 'linnetlaw3.CodecLimits', WHERE WHAT IT READS IS OF BULK AT MOST 1048576: true; the input reads as it did. -/
def codecLimitsUptoRow : OpenClaim := { program := "ytfalaopljodmnaa", sum := "eadd694e48dff5d7f5542422aad4b075354ea216152b3aaff17a1685ef4d97dc", func := "linnet/linnetlaw3.CodecLimits", spec := "codecLimits", apart := false, narrowed := true }
def CodecLimitsUptoSaid : Prop := codecLimitsUptoRow.holds Try.pinned (OpenSpec.upto codecLimitsSpec)

/-- 'linnetlaw3.CodecBack', WHERE WHAT IT READS IS OF BULK AT MOST 1048576: true; the input reads as it did. -/
def codecBackUptoRow : OpenClaim := { program := "ytfalaopljodmnaa", sum := "eadd694e48dff5d7f5542422aad4b075354ea216152b3aaff17a1685ef4d97dc", func := "linnet/linnetlaw3.CodecBack", spec := "codecBack", apart := false, narrowed := true }
def CodecBackUptoSaid : Prop := codecBackUptoRow.holds Try.pinned (OpenSpec.upto codecBackSpec)

/-- 'linnetlaw9.VoteAsks', WHERE WHAT IT READS IS OF BULK AT MOST 1048576: true; the input reads as it did. -/
def voteAsksUptoRow : OpenClaim := { program := "ytfalaopljodmnaa", sum := "eadd694e48dff5d7f5542422aad4b075354ea216152b3aaff17a1685ef4d97dc", func := "linnet/linnetlaw9.VoteAsks", spec := "voteAsks", apart := false, narrowed := true }
def VoteAsksUptoSaid : Prop := voteAsksUptoRow.holds Try.pinned (OpenSpec.upto voteAsksSpec)

/-- 'linnetlaw9.VoteForms', WHERE WHAT IT READS IS OF BULK AT MOST 1048576: true; the input reads as it did. -/
def voteFormsUptoRow : OpenClaim := { program := "ytfalaopljodmnaa", sum := "eadd694e48dff5d7f5542422aad4b075354ea216152b3aaff17a1685ef4d97dc", func := "linnet/linnetlaw9.VoteForms", spec := "voteForms", apart := false, narrowed := true }
def VoteFormsUptoSaid : Prop := voteFormsUptoRow.holds Try.pinned (OpenSpec.upto voteFormsSpec)

/-- 'linnetlaw9.VoteOne', WHERE WHAT IT READS IS OF BULK AT MOST 1048576: true; the input reads as it did. -/
def voteOneUptoRow : OpenClaim := { program := "ytfalaopljodmnaa", sum := "eadd694e48dff5d7f5542422aad4b075354ea216152b3aaff17a1685ef4d97dc", func := "linnet/linnetlaw9.VoteOne", spec := "voteOne", apart := false, narrowed := true }
def VoteOneUptoSaid : Prop := voteOneUptoRow.holds Try.pinned (OpenSpec.upto voteOneSpec)

/-- 'linnetlaw9.VoteSteps', WHERE WHAT IT READS IS OF BULK AT MOST 1048576: true; the input reads as it did. -/
def voteStepsUptoRow : OpenClaim := { program := "ytfalaopljodmnaa", sum := "eadd694e48dff5d7f5542422aad4b075354ea216152b3aaff17a1685ef4d97dc", func := "linnet/linnetlaw9.VoteSteps", spec := "voteSteps", apart := false, narrowed := true }
def VoteStepsUptoSaid : Prop := voteStepsUptoRow.holds Try.pinned (OpenSpec.upto voteStepsSpec)

/-- 'linnetlaw20.SessionOnce', WHERE WHAT IT READS IS OF BULK AT MOST 1048576: true; the input reads as it did. -/
def sessionOnceUptoRow : OpenClaim := { program := "ytfalaopljodmnaa", sum := "eadd694e48dff5d7f5542422aad4b075354ea216152b3aaff17a1685ef4d97dc", func := "linnet/linnetlaw20.SessionOnce", spec := "sessionOnce", apart := false, narrowed := true }
def SessionOnceUptoSaid : Prop := sessionOnceUptoRow.holds Try.pinned (OpenSpec.upto sessionOnceSpec)

/-- 'linnetlaw20.SessionFrames', WHERE WHAT IT READS IS OF BULK AT MOST 1048576: true; the input reads as it did. -/
def sessionFramesUptoRow : OpenClaim := { program := "ytfalaopljodmnaa", sum := "eadd694e48dff5d7f5542422aad4b075354ea216152b3aaff17a1685ef4d97dc", func := "linnet/linnetlaw20.SessionFrames", spec := "sessionFrames", apart := false, narrowed := true }
def SessionFramesUptoSaid : Prop := sessionFramesUptoRow.holds Try.pinned (OpenSpec.upto sessionFramesSpec)

/-- 'linnetlaw20.SessionQuiet', WHERE WHAT IT READS IS OF BULK AT MOST 1048576: true; the input reads as it did. -/
def sessionQuietUptoRow : OpenClaim := { program := "ytfalaopljodmnaa", sum := "eadd694e48dff5d7f5542422aad4b075354ea216152b3aaff17a1685ef4d97dc", func := "linnet/linnetlaw20.SessionQuiet", spec := "sessionQuiet", apart := false, narrowed := true }
def SessionQuietUptoSaid : Prop := sessionQuietUptoRow.holds Try.pinned (OpenSpec.upto sessionQuietSpec)

/-- 'linnetlaw20.SessionEpochs', WHERE WHAT IT READS IS OF BULK AT MOST 1048576: true; the input reads as it did. -/
def sessionEpochsUptoRow : OpenClaim := { program := "ytfalaopljodmnaa", sum := "eadd694e48dff5d7f5542422aad4b075354ea216152b3aaff17a1685ef4d97dc", func := "linnet/linnetlaw20.SessionEpochs", spec := "sessionEpochs", apart := false, narrowed := true }
def SessionEpochsUptoSaid : Prop := sessionEpochsUptoRow.holds Try.pinned (OpenSpec.upto sessionEpochsSpec)

end Rows
end Go.Proofs.Ytfalaopljodmnaa
