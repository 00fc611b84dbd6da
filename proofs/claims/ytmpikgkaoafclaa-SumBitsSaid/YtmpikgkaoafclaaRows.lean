/-
  No cell of these rows narrows 'for every input' (looked for: loops, veiled, ifaces, maps, wideKeys, modest, calm, conditions, laid).
  DERIVED. THE GIVEN ROWS OF THIS SEAT. 6 by the template 'for every input the law returns true; each argument reads behind the call as it read before'; 0 by the template 'total and deterministic' (their statements: YtmpikgkaoafclaaTotals.lean).
  GIVEN WITH THE SEED: the statements are not yours to turn. If you find one false, say at which input.
  Laid BY PROGRAM, IN A SANDBOX (cutbox-rows.mjs): the forced cells as the released guide's own fill.sh prints them over the translation 45289b3595e9eab8… (all of the seat's roots in one cut). By AI agents, Wed Nov 11 2026. No macro, syntax, notation, axiom, sorry.
-/
import Derived.Test.YtmpikgkaoafclaaChecked
import GoSem.Claim
import GoSem.ClaimJoined
import GoSem.ClaimMapViews
import Derived.JoinedTies
import Derived.KernelRfl
namespace Go.Proofs.Ytmpikgkaoafclaa
/- THE CELL 'sum', in the pinned program and in every row, IS THE sha256 OF THE DUMP (.gsa) THAT YtmpikgkaoafclaaProg.lean LOADS. Nothing in Lean hashes anything: it is a label: what it is worth is what the hold of that sum in a sandbox is worth. -/
noncomputable def Try.pinned : Pinned := { name := "ytmpikgkaoafclaa", sum := "45289b3595e9eab83f7085521b0cad5dd94392335bceb9435ec98d8777380056", checked := Try.checked }
namespace Rows
def none {H : Type} : Left H := { results := [], args := [] }

/-- 'packhorselaw1.WeakRolls': WHATEVER THE INPUT: true; the input reads as it did. -/
def weakRollsSpec : ChangeSpec := { name := "weakRolls", fn := fun _ => fun
  | [d1, d2, d3] => { results := [.lit (.bool true)], args := [d1, d2, d3] }
  | _ => none }
def weakRollsRow : OpenClaim := { program := "ytmpikgkaoafclaa", sum := "45289b3595e9eab83f7085521b0cad5dd94392335bceb9435ec98d8777380056", func := "packhorse/packhorselaw1.WeakRolls", spec := "weakRolls", apart := false }
def WeakRollsSaid : Prop := weakRollsRow.holds Try.pinned (OpenSpec.ofChange weakRollsSpec)

/-- ITS FALSE NEIGHBOUR: 'it returns false'. Refute it at one input. -/
def weakRollsWrong : ChangeSpec := { name := "weakRolls", fn := fun _ => fun
  | [d1, d2, d3] => { results := [.lit (.bool false)], args := [d1, d2, d3] }
  | _ => none }
def WeakRollsWrongFalsely : Prop := weakRollsRow.holds Try.pinned (OpenSpec.ofChange weakRollsWrong)

/-- 'packhorselaw1.WeakSlides': WHATEVER THE INPUT: true; the input reads as it did. -/
def weakSlidesSpec : ChangeSpec := { name := "weakSlides", fn := fun _ => fun
  | [d1, d2] => { results := [.lit (.bool true)], args := [d1, d2] }
  | _ => none }
def weakSlidesRow : OpenClaim := { program := "ytmpikgkaoafclaa", sum := "45289b3595e9eab83f7085521b0cad5dd94392335bceb9435ec98d8777380056", func := "packhorse/packhorselaw1.WeakSlides", spec := "weakSlides", apart := false }
def WeakSlidesSaid : Prop := weakSlidesRow.holds Try.pinned (OpenSpec.ofChange weakSlidesSpec)

/-- ITS FALSE NEIGHBOUR: 'it returns false'. Refute it at one input. -/
def weakSlidesWrong : ChangeSpec := { name := "weakSlides", fn := fun _ => fun
  | [d1, d2] => { results := [.lit (.bool false)], args := [d1, d2] }
  | _ => none }
def WeakSlidesWrongFalsely : Prop := weakSlidesRow.holds Try.pinned (OpenSpec.ofChange weakSlidesWrong)

/-- 'packhorselaw1.WeakTells': WHATEVER THE INPUT: true; the input reads as it did. -/
def weakTellsSpec : ChangeSpec := { name := "weakTells", fn := fun _ => fun
  | [d1, d2, d3, d4, d5, d6] => { results := [.lit (.bool true)], args := [d1, d2, d3, d4, d5, d6] }
  | _ => none }
def weakTellsRow : OpenClaim := { program := "ytmpikgkaoafclaa", sum := "45289b3595e9eab83f7085521b0cad5dd94392335bceb9435ec98d8777380056", func := "packhorse/packhorselaw1.WeakTells", spec := "weakTells", apart := false }
def WeakTellsSaid : Prop := weakTellsRow.holds Try.pinned (OpenSpec.ofChange weakTellsSpec)

/-- ITS FALSE NEIGHBOUR: 'it returns false'. Refute it at one input. -/
def weakTellsWrong : ChangeSpec := { name := "weakTells", fn := fun _ => fun
  | [d1, d2, d3, d4, d5, d6] => { results := [.lit (.bool false)], args := [d1, d2, d3, d4, d5, d6] }
  | _ => none }
def WeakTellsWrongFalsely : Prop := weakTellsRow.holds Try.pinned (OpenSpec.ofChange weakTellsWrong)

/-- 'packhorselaw1.SumTells': WHATEVER THE INPUT: true; the input reads as it did. -/
def sumTellsSpec : ChangeSpec := { name := "sumTells", fn := fun _ => fun
  | [d1, d2, d3, d4] => { results := [.lit (.bool true)], args := [d1, d2, d3, d4] }
  | _ => none }
def sumTellsRow : OpenClaim := { program := "ytmpikgkaoafclaa", sum := "45289b3595e9eab83f7085521b0cad5dd94392335bceb9435ec98d8777380056", func := "packhorse/packhorselaw1.SumTells", spec := "sumTells", apart := false }
def SumTellsSaid : Prop := sumTellsRow.holds Try.pinned (OpenSpec.ofChange sumTellsSpec)

/-- ITS FALSE NEIGHBOUR: 'it returns false'. Refute it at one input. -/
def sumTellsWrong : ChangeSpec := { name := "sumTells", fn := fun _ => fun
  | [d1, d2, d3, d4] => { results := [.lit (.bool false)], args := [d1, d2, d3, d4] }
  | _ => none }
def SumTellsWrongFalsely : Prop := sumTellsRow.holds Try.pinned (OpenSpec.ofChange sumTellsWrong)

/-- 'packhorselaw1.SumJoins': WHATEVER THE INPUT: true; the input reads as it did. -/
def sumJoinsSpec : ChangeSpec := { name := "sumJoins", fn := fun _ => fun
  | [d1, d2, d3] => { results := [.lit (.bool true)], args := [d1, d2, d3] }
  | _ => none }
def sumJoinsRow : OpenClaim := { program := "ytmpikgkaoafclaa", sum := "45289b3595e9eab83f7085521b0cad5dd94392335bceb9435ec98d8777380056", func := "packhorse/packhorselaw1.SumJoins", spec := "sumJoins", apart := false }
def SumJoinsSaid : Prop := sumJoinsRow.holds Try.pinned (OpenSpec.ofChange sumJoinsSpec)

/-- ITS FALSE NEIGHBOUR: 'it returns false'. Refute it at one input. -/
def sumJoinsWrong : ChangeSpec := { name := "sumJoins", fn := fun _ => fun
  | [d1, d2, d3] => { results := [.lit (.bool false)], args := [d1, d2, d3] }
  | _ => none }
def SumJoinsWrongFalsely : Prop := sumJoinsRow.holds Try.pinned (OpenSpec.ofChange sumJoinsWrong)

/-- 'packhorselaw1.SumBits': WHATEVER THE INPUT: true; the input reads as it did. -/
def sumBitsSpec : ChangeSpec := { name := "sumBits", fn := fun _ => fun
  | [d1, d2] => { results := [.lit (.bool true)], args := [d1, d2] }
  | _ => none }
def sumBitsRow : OpenClaim := { program := "ytmpikgkaoafclaa", sum := "45289b3595e9eab83f7085521b0cad5dd94392335bceb9435ec98d8777380056", func := "packhorse/packhorselaw1.SumBits", spec := "sumBits", apart := false }
def SumBitsSaid : Prop := sumBitsRow.holds Try.pinned (OpenSpec.ofChange sumBitsSpec)

/-- ITS FALSE NEIGHBOUR: 'it returns false'. Refute it at one input. -/
def sumBitsWrong : ChangeSpec := { name := "sumBits", fn := fun _ => fun
  | [d1, d2] => { results := [.lit (.bool false)], args := [d1, d2] }
  | _ => none }
def SumBitsWrongFalsely : Prop := sumBitsRow.holds Try.pinned (OpenSpec.ofChange sumBitsWrong)

/- THE SECOND FORM. 'bulk': how many values and letters a reading holds, each counted each time it is reached (what is shared counts as often as it is met; a slice's spare places count too). A statement '..UptoSaid' is the law's where the arguments, and the package variables that the reading takes, are together of bulk at most 1048576: NARROWER than '..Said'. Prove '..Said' where nothing that the law and all that it calls make is longer than what came in: it says more and counts as full. Else prove '..UptoSaid'. A law counts once. -/
mutual
def uptoBulk {H : Type} : DataW H → Nat
  | .lit (.string bytes) => bytes.length + 1
  | .lit _ => 1
  | .nil => 1
  | .ptr d => uptoBulk d + 1
  | .slice elems spare => uptoBulkAll elems + uptoBulkAll spare + 1
  | .agg parts => uptoBulkAll parts + 1
  | .iface _ d => uptoBulk d + 1
  | .map entries => uptoBulkEntries entries + 1
  | .held _ => 1
def uptoBulkAll {H : Type} : List (DataW H) → Nat
  | [] => 0
  | d :: r => uptoBulk d + uptoBulkAll r
def uptoBulkEntries {H : Type} : List (Lit × DataW H) → Nat
  | [] => 0
  | x :: r => uptoBulkEntry x + uptoBulkEntries r
def uptoBulkEntry {H : Type} : Lit × DataW H → Nat
  | (.string bytes, d) => bytes.length + uptoBulk d + 1
  | (_, d) => uptoBulk d + 1
 end
def uptoSmall : (H : Type) → List (DataW H) → Bool := fun _ ds => decide (uptoBulkAll ds ≤ 1048576)
def OpenSpec.upto (s : _root_.Go.ChangeSpec) : _root_.Go.OpenSpec := { _root_.Go.OpenSpec.ofChange s with cond := some uptoSmall }

/-- 'packhorselaw1.WeakRolls', WHERE WHAT IT READS IS OF BULK AT MOST 1048576: true; the input reads as it did. -/
def weakRollsUptoRow : OpenClaim := { program := "ytmpikgkaoafclaa", sum := "45289b3595e9eab83f7085521b0cad5dd94392335bceb9435ec98d8777380056", func := "packhorse/packhorselaw1.WeakRolls", spec := "weakRolls", apart := false, narrowed := true }
def WeakRollsUptoSaid : Prop := weakRollsUptoRow.holds Try.pinned (OpenSpec.upto weakRollsSpec)

/-- 'packhorselaw1.WeakSlides', WHERE WHAT IT READS IS OF BULK AT MOST 1048576: true; the input reads as it did. -/
def weakSlidesUptoRow : OpenClaim := { program := "ytmpikgkaoafclaa", sum := "45289b3595e9eab83f7085521b0cad5dd94392335bceb9435ec98d8777380056", func := "packhorse/packhorselaw1.WeakSlides", spec := "weakSlides", apart := false, narrowed := true }
def WeakSlidesUptoSaid : Prop := weakSlidesUptoRow.holds Try.pinned (OpenSpec.upto weakSlidesSpec)

/-- 'packhorselaw1.WeakTells', WHERE WHAT IT READS IS OF BULK AT MOST 1048576: true; the input reads as it did. -/
def weakTellsUptoRow : OpenClaim := { program := "ytmpikgkaoafclaa", sum := "45289b3595e9eab83f7085521b0cad5dd94392335bceb9435ec98d8777380056", func := "packhorse/packhorselaw1.WeakTells", spec := "weakTells", apart := false, narrowed := true }
def WeakTellsUptoSaid : Prop := weakTellsUptoRow.holds Try.pinned (OpenSpec.upto weakTellsSpec)

/-- 'packhorselaw1.SumTells', WHERE WHAT IT READS IS OF BULK AT MOST 1048576: true; the input reads as it did. -/
def sumTellsUptoRow : OpenClaim := { program := "ytmpikgkaoafclaa", sum := "45289b3595e9eab83f7085521b0cad5dd94392335bceb9435ec98d8777380056", func := "packhorse/packhorselaw1.SumTells", spec := "sumTells", apart := false, narrowed := true }
def SumTellsUptoSaid : Prop := sumTellsUptoRow.holds Try.pinned (OpenSpec.upto sumTellsSpec)

/-- 'packhorselaw1.SumJoins', WHERE WHAT IT READS IS OF BULK AT MOST 1048576: true; the input reads as it did. -/
def sumJoinsUptoRow : OpenClaim := { program := "ytmpikgkaoafclaa", sum := "45289b3595e9eab83f7085521b0cad5dd94392335bceb9435ec98d8777380056", func := "packhorse/packhorselaw1.SumJoins", spec := "sumJoins", apart := false, narrowed := true }
def SumJoinsUptoSaid : Prop := sumJoinsUptoRow.holds Try.pinned (OpenSpec.upto sumJoinsSpec)

/-- 'packhorselaw1.SumBits', WHERE WHAT IT READS IS OF BULK AT MOST 1048576: true; the input reads as it did. -/
def sumBitsUptoRow : OpenClaim := { program := "ytmpikgkaoafclaa", sum := "45289b3595e9eab83f7085521b0cad5dd94392335bceb9435ec98d8777380056", func := "packhorse/packhorselaw1.SumBits", spec := "sumBits", apart := false, narrowed := true }
def SumBitsUptoSaid : Prop := sumBitsUptoRow.holds Try.pinned (OpenSpec.upto sumBitsSpec)

end Rows
end Go.Proofs.Ytmpikgkaoafclaa
