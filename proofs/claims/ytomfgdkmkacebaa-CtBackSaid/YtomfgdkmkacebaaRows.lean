/-
  No cell of these rows narrows 'for every input' (looked for: loops, veiled, ifaces, maps, wideKeys, modest, calm, conditions, laid).
  DERIVED. THE GIVEN ROWS OF THIS SEAT. 4 by the template 'for every input the law returns true; each argument reads behind the call as it read before'; 0 by the template 'total and deterministic' (their statements: YtomfgdkmkacebaaTotals.lean).
  GIVEN WITH THE SEED: the statements are not yours to turn. If you find one false, say at which input.
  Laid BY PROGRAM, IN A SANDBOX (cutbox-rows.mjs): the forced cells as the released guide's own fill.sh prints them over the translation bac19560a8486349… (all of the seat's roots in one cut). By AI agents, Wed Nov 11 2026. No macro, syntax, notation, axiom, sorry.
-/
import Derived.Test.YtomfgdkmkacebaaChecked
import GoSem.Claim
import GoSem.ClaimJoined
import GoSem.ClaimMapViews
import Derived.JoinedTies
import Derived.KernelRfl
namespace Go.Proofs.Ytomfgdkmkacebaa
/- THE CELL 'sum', in the pinned program and in every row, IS THE sha256 OF THE DUMP (.gsa) THAT YtomfgdkmkacebaaProg.lean LOADS. Nothing in Lean hashes anything: it is a label: what it is worth is what the hold of that sum in a sandbox is worth. -/
noncomputable def Try.pinned : Pinned := { name := "ytomfgdkmkacebaa", sum := "bac19560a848634961d61ac1d65d53eda04cdff8fa2f7ae8326331b81d53607c", checked := Try.checked }
namespace Rows
def none {H : Type} : Left H := { results := [], args := [] }

/-- 'skeinlaw12.CtTuples': WHATEVER THE INPUT: true; the input reads as it did. -/
def ctTuplesSpec : ChangeSpec := { name := "ctTuples", fn := fun _ => fun
  | [d1, d2] => { results := [.lit (.bool true)], args := [d1, d2] }
  | _ => none }
def ctTuplesRow : OpenClaim := { program := "ytomfgdkmkacebaa", sum := "bac19560a848634961d61ac1d65d53eda04cdff8fa2f7ae8326331b81d53607c", func := "skein/skeinlaw12.CtTuples", spec := "ctTuples", plainKeys := false, apart := false }
def CtTuplesSaid : Prop := ctTuplesRow.holds Try.pinned (OpenSpec.ofChange ctTuplesSpec)

/-- ITS FALSE NEIGHBOUR: 'it returns false'. Refute it at one input. -/
def ctTuplesWrong : ChangeSpec := { name := "ctTuples", fn := fun _ => fun
  | [d1, d2] => { results := [.lit (.bool false)], args := [d1, d2] }
  | _ => none }
def CtTuplesWrongFalsely : Prop := ctTuplesRow.holds Try.pinned (OpenSpec.ofChange ctTuplesWrong)

/-- 'skeinlaw12.CtBack': WHATEVER THE INPUT: true; the input reads as it did. -/
def ctBackSpec : ChangeSpec := { name := "ctBack", fn := fun _ => fun
  | [d1, d2, d3, d4] => { results := [.lit (.bool true)], args := [d1, d2, d3, d4] }
  | _ => none }
def ctBackRow : OpenClaim := { program := "ytomfgdkmkacebaa", sum := "bac19560a848634961d61ac1d65d53eda04cdff8fa2f7ae8326331b81d53607c", func := "skein/skeinlaw12.CtBack", spec := "ctBack", plainKeys := false, apart := false }
def CtBackSaid : Prop := ctBackRow.holds Try.pinned (OpenSpec.ofChange ctBackSpec)

/-- ITS FALSE NEIGHBOUR: 'it returns false'. Refute it at one input. -/
def ctBackWrong : ChangeSpec := { name := "ctBack", fn := fun _ => fun
  | [d1, d2, d3, d4] => { results := [.lit (.bool false)], args := [d1, d2, d3, d4] }
  | _ => none }
def CtBackWrongFalsely : Prop := ctBackRow.holds Try.pinned (OpenSpec.ofChange ctBackWrong)

/-- 'skeinlaw12.CtExpires': WHATEVER THE INPUT: true; the input reads as it did. -/
def ctExpiresSpec : ChangeSpec := { name := "ctExpires", fn := fun _ => fun
  | [d1, d2] => { results := [.lit (.bool true)], args := [d1, d2] }
  | _ => none }
def ctExpiresRow : OpenClaim := { program := "ytomfgdkmkacebaa", sum := "bac19560a848634961d61ac1d65d53eda04cdff8fa2f7ae8326331b81d53607c", func := "skein/skeinlaw12.CtExpires", spec := "ctExpires", plainKeys := false, apart := false }
def CtExpiresSaid : Prop := ctExpiresRow.holds Try.pinned (OpenSpec.ofChange ctExpiresSpec)

/-- ITS FALSE NEIGHBOUR: 'it returns false'. Refute it at one input. -/
def ctExpiresWrong : ChangeSpec := { name := "ctExpires", fn := fun _ => fun
  | [d1, d2] => { results := [.lit (.bool false)], args := [d1, d2] }
  | _ => none }
def CtExpiresWrongFalsely : Prop := ctExpiresRow.holds Try.pinned (OpenSpec.ofChange ctExpiresWrong)

/-- 'skeinlaw12.CtZones': WHATEVER THE INPUT: true; the input reads as it did. -/
def ctZonesSpec : ChangeSpec := { name := "ctZones", fn := fun _ => fun
  | [d1, d2, d3] => { results := [.lit (.bool true)], args := [d1, d2, d3] }
  | _ => none }
def ctZonesRow : OpenClaim := { program := "ytomfgdkmkacebaa", sum := "bac19560a848634961d61ac1d65d53eda04cdff8fa2f7ae8326331b81d53607c", func := "skein/skeinlaw12.CtZones", spec := "ctZones", plainKeys := false, apart := false }
def CtZonesSaid : Prop := ctZonesRow.holds Try.pinned (OpenSpec.ofChange ctZonesSpec)

/-- ITS FALSE NEIGHBOUR: 'it returns false'. Refute it at one input. -/
def ctZonesWrong : ChangeSpec := { name := "ctZones", fn := fun _ => fun
  | [d1, d2, d3] => { results := [.lit (.bool false)], args := [d1, d2, d3] }
  | _ => none }
def CtZonesWrongFalsely : Prop := ctZonesRow.holds Try.pinned (OpenSpec.ofChange ctZonesWrong)

/- THE SECOND FORM. 'bulk': how many values and letters a reading holds, each counted each time it is reached (what is shared counts as often as it is met; a slice's spare places count too). A statement '..UptoSaid' is the law's where the arguments, and the package variables that the reading takes, are together of bulk at most 1048576: NARROWER than '..Said'. Prove '..Said' where nothing that the law and all that it calls make is longer than what came in: it says more and counts as full. Else prove '..UptoSaid'. A law counts once. -/
mutual
def uptoBulk {H : Type} : DataW H → Nat
  | .lit (.string bytes) => bytes.length + 1
  | .lit _ => 1
  | .nil => 1
  | .ptr d => uptoBulk d + 1
  | .slice elems spare => uptoBulkAll elems + uptoBulkAll spare + 1
  | .agg parts => uptoBulkAll parts + 1
  | .iface _ d => uptoBulk d + 1
  | .map entries => uptoBulkEntries entries + 1
  | .held _ => 1
def uptoBulkAll {H : Type} : List (DataW H) → Nat
  | [] => 0
  | d :: r => uptoBulk d + uptoBulkAll r
def uptoBulkEntries {H : Type} : List (Lit × DataW H) → Nat
  | [] => 0
  | x :: r => uptoBulkEntry x + uptoBulkEntries r
def uptoBulkEntry {H : Type} : Lit × DataW H → Nat
  | (.string bytes, d) => bytes.length + uptoBulk d + 1
  | (_, d) => uptoBulk d + 1
 end
def uptoSmall : (H : Type) → List (DataW H) → Bool := fun _ ds => decide (uptoBulkAll ds ≤ 1048576)
def OpenSpec.upto (s : _root_.Go.ChangeSpec) : _root_.Go.OpenSpec := { _root_.Go.OpenSpec.ofChange s with cond := some uptoSmall }

/-- 'skeinlaw12.CtTuples', WHERE WHAT IT READS IS OF BULK AT MOST 1048576: true; the input reads as it did. -/
def ctTuplesUptoRow : OpenClaim := { program := "ytomfgdkmkacebaa", sum := "bac19560a848634961d61ac1d65d53eda04cdff8fa2f7ae8326331b81d53607c", func := "skein/skeinlaw12.CtTuples", spec := "ctTuples", plainKeys := false, apart := false, narrowed := true }
def CtTuplesUptoSaid : Prop := ctTuplesUptoRow.holds Try.pinned (OpenSpec.upto ctTuplesSpec)

/-- 'skeinlaw12.CtBack', WHERE WHAT IT READS IS OF BULK AT MOST 1048576: true; the input reads as it did. -/
def ctBackUptoRow : OpenClaim := { program := "ytomfgdkmkacebaa", sum := "bac19560a848634961d61ac1d65d53eda04cdff8fa2f7ae8326331b81d53607c", func := "skein/skeinlaw12.CtBack", spec := "ctBack", plainKeys := false, apart := false, narrowed := true }
def CtBackUptoSaid : Prop := ctBackUptoRow.holds Try.pinned (OpenSpec.upto ctBackSpec)

/-- 'skeinlaw12.CtExpires', WHERE WHAT IT READS IS OF BULK AT MOST 1048576: true; the input reads as it did. -/
def ctExpiresUptoRow : OpenClaim := { program := "ytomfgdkmkacebaa", sum := "bac19560a848634961d61ac1d65d53eda04cdff8fa2f7ae8326331b81d53607c", func := "skein/skeinlaw12.CtExpires", spec := "ctExpires", plainKeys := false, apart := false, narrowed := true }
def CtExpiresUptoSaid : Prop := ctExpiresUptoRow.holds Try.pinned (OpenSpec.upto ctExpiresSpec)

/-- 'skeinlaw12.CtZones', WHERE WHAT IT READS IS OF BULK AT MOST 1048576: true; the input reads as it did. -/
def ctZonesUptoRow : OpenClaim := { program := "ytomfgdkmkacebaa", sum := "bac19560a848634961d61ac1d65d53eda04cdff8fa2f7ae8326331b81d53607c", func := "skein/skeinlaw12.CtZones", spec := "ctZones", plainKeys := false, apart := false, narrowed := true }
def CtZonesUptoSaid : Prop := ctZonesUptoRow.holds Try.pinned (OpenSpec.upto ctZonesSpec)

end Rows
end Go.Proofs.Ytomfgdkmkacebaa
