/-
  No cell of these rows narrows 'for every input' (looked for: loops, veiled, ifaces, maps, wideKeys, modest, calm, conditions, laid).
  DERIVED. THE GIVEN ROWS OF THIS SEAT. 13 by the template 'for every input the law returns true; each argument reads behind the call as it read before'; 0 by the template 'total and deterministic' (their statements: YtmplgcefhpobgaaTotals.lean).
  GIVEN WITH THE SEED: the statements are not yours to turn. If you find one false, say at which input.
  Laid BY PROGRAM, IN A SANDBOX (cutbox-rows.mjs): the forced cells as the released guide's own fill.sh prints them over the translation 0fa0493b82d82f04… (all of the seat's roots in one cut). By AI agents, Wed Nov 11 2026. No macro, syntax, notation, axiom, sorry.
-/
import Derived.Test.YtmplgcefhpobgaaChecked
import GoSem.Claim
import GoSem.ClaimJoined
import GoSem.ClaimMapViews
import Derived.JoinedTies
import Derived.KernelRfl
namespace Go.Proofs.Ytmplgcefhpobgaa
/- THE CELL 'sum', in the pinned program and in every row, IS THE sha256 OF THE DUMP (.gsa) THAT YtmplgcefhpobgaaProg.lean LOADS. Nothing in Lean hashes anything: it is a label: what it is worth is what the hold of that sum in a sandbox is worth. -/
noncomputable def Try.pinned : Pinned := { name := "ytmplgcefhpobgaa", sum := "0fa0493b82d82f04c71cf5deac1aac337da5ab356a91a6ef87771e36dbfb0ed4", checked := Try.checked }
namespace Rows
def none {H : Type} : Left H := { results := [], args := [] }

/-- 'glisterlaw04.CipherCodes': WHATEVER THE INPUT: true; the input reads as it did. -/
def cipherCodesSpec : ChangeSpec := { name := "cipherCodes", fn := fun _ => fun
  | [d1, d2, d3] => { results := [.lit (.bool true)], args := [d1, d2, d3] }
  | _ => none }
def cipherCodesRow : OpenClaim := { program := "ytmplgcefhpobgaa", sum := "0fa0493b82d82f04c71cf5deac1aac337da5ab356a91a6ef87771e36dbfb0ed4", func := "glister/glisterlaw04.CipherCodes", spec := "cipherCodes", unfollowed := true, recurses := true, plainKeys := false, apart := false }
def CipherCodesSaid : Prop := cipherCodesRow.holds Try.pinned (OpenSpec.ofChange cipherCodesSpec)

/-- ITS FALSE NEIGHBOUR: 'it returns false'. Refute it at one input. -/
def cipherCodesWrong : ChangeSpec := { name := "cipherCodes", fn := fun _ => fun
  | [d1, d2, d3] => { results := [.lit (.bool false)], args := [d1, d2, d3] }
  | _ => none }
def CipherCodesWrongFalsely : Prop := cipherCodesRow.holds Try.pinned (OpenSpec.ofChange cipherCodesWrong)

/-- 'glisterlaw04.CipherDecodes': WHATEVER THE INPUT: true; the input reads as it did. -/
def cipherDecodesSpec : ChangeSpec := { name := "cipherDecodes", fn := fun _ => fun
  | [d1, d2, d3] => { results := [.lit (.bool true)], args := [d1, d2, d3] }
  | _ => none }
def cipherDecodesRow : OpenClaim := { program := "ytmplgcefhpobgaa", sum := "0fa0493b82d82f04c71cf5deac1aac337da5ab356a91a6ef87771e36dbfb0ed4", func := "glister/glisterlaw04.CipherDecodes", spec := "cipherDecodes", unfollowed := true, recurses := true, plainKeys := false, apart := false }
def CipherDecodesSaid : Prop := cipherDecodesRow.holds Try.pinned (OpenSpec.ofChange cipherDecodesSpec)

/-- ITS FALSE NEIGHBOUR: 'it returns false'. Refute it at one input. -/
def cipherDecodesWrong : ChangeSpec := { name := "cipherDecodes", fn := fun _ => fun
  | [d1, d2, d3] => { results := [.lit (.bool false)], args := [d1, d2, d3] }
  | _ => none }
def CipherDecodesWrongFalsely : Prop := cipherDecodesRow.holds Try.pinned (OpenSpec.ofChange cipherDecodesWrong)

/-- 'glisterlaw04.CipherExposes': WHATEVER THE INPUT: true; the input reads as it did. -/
def cipherExposesSpec : ChangeSpec := { name := "cipherExposes", fn := fun _ => fun
  | [d1, d2] => { results := [.lit (.bool true)], args := [d1, d2] }
  | _ => none }
def cipherExposesRow : OpenClaim := { program := "ytmplgcefhpobgaa", sum := "0fa0493b82d82f04c71cf5deac1aac337da5ab356a91a6ef87771e36dbfb0ed4", func := "glister/glisterlaw04.CipherExposes", spec := "cipherExposes", unfollowed := true, recurses := true, plainKeys := false, apart := false }
def CipherExposesSaid : Prop := cipherExposesRow.holds Try.pinned (OpenSpec.ofChange cipherExposesSpec)

/-- ITS FALSE NEIGHBOUR: 'it returns false'. Refute it at one input. -/
def cipherExposesWrong : ChangeSpec := { name := "cipherExposes", fn := fun _ => fun
  | [d1, d2] => { results := [.lit (.bool false)], args := [d1, d2] }
  | _ => none }
def CipherExposesWrongFalsely : Prop := cipherExposesRow.holds Try.pinned (OpenSpec.ofChange cipherExposesWrong)

/-- 'glisterlaw04.CipherBack': WHATEVER THE INPUT: true; the input reads as it did. -/
def cipherBackSpec : ChangeSpec := { name := "cipherBack", fn := fun _ => fun
  | [d1, d2, d3] => { results := [.lit (.bool true)], args := [d1, d2, d3] }
  | _ => none }
def cipherBackRow : OpenClaim := { program := "ytmplgcefhpobgaa", sum := "0fa0493b82d82f04c71cf5deac1aac337da5ab356a91a6ef87771e36dbfb0ed4", func := "glister/glisterlaw04.CipherBack", spec := "cipherBack", unfollowed := true, recurses := true, plainKeys := false, apart := false }
def CipherBackSaid : Prop := cipherBackRow.holds Try.pinned (OpenSpec.ofChange cipherBackSpec)

/-- ITS FALSE NEIGHBOUR: 'it returns false'. Refute it at one input. -/
def cipherBackWrong : ChangeSpec := { name := "cipherBack", fn := fun _ => fun
  | [d1, d2, d3] => { results := [.lit (.bool false)], args := [d1, d2, d3] }
  | _ => none }
def CipherBackWrongFalsely : Prop := cipherBackRow.holds Try.pinned (OpenSpec.ofChange cipherBackWrong)

/-- 'glisterlaw04.CipherWrong': WHATEVER THE INPUT: true; the input reads as it did. -/
def cipherWrongSpec : ChangeSpec := { name := "cipherWrong", fn := fun _ => fun
  | [d1, d2, d3, d4, d5, d6] => { results := [.lit (.bool true)], args := [d1, d2, d3, d4, d5, d6] }
  | _ => none }
def cipherWrongRow : OpenClaim := { program := "ytmplgcefhpobgaa", sum := "0fa0493b82d82f04c71cf5deac1aac337da5ab356a91a6ef87771e36dbfb0ed4", func := "glister/glisterlaw04.CipherWrong", spec := "cipherWrong", unfollowed := true, recurses := true, plainKeys := false, apart := false }
def CipherWrongSaid : Prop := cipherWrongRow.holds Try.pinned (OpenSpec.ofChange cipherWrongSpec)

/-- ITS FALSE NEIGHBOUR: 'it returns false'. Refute it at one input. -/
def cipherWrongWrong : ChangeSpec := { name := "cipherWrong", fn := fun _ => fun
  | [d1, d2, d3, d4, d5, d6] => { results := [.lit (.bool false)], args := [d1, d2, d3, d4, d5, d6] }
  | _ => none }
def CipherWrongWrongFalsely : Prop := cipherWrongRow.holds Try.pinned (OpenSpec.ofChange cipherWrongWrong)

/-- 'glisterlaw04.CipherNulls': WHATEVER THE INPUT: true; the input reads as it did. -/
def cipherNullsSpec : ChangeSpec := { name := "cipherNulls", fn := fun _ => fun
  | [d1, d2, d3, d4, d5] => { results := [.lit (.bool true)], args := [d1, d2, d3, d4, d5] }
  | _ => none }
def cipherNullsRow : OpenClaim := { program := "ytmplgcefhpobgaa", sum := "0fa0493b82d82f04c71cf5deac1aac337da5ab356a91a6ef87771e36dbfb0ed4", func := "glister/glisterlaw04.CipherNulls", spec := "cipherNulls", unfollowed := true, recurses := true, plainKeys := false, apart := false }
def CipherNullsSaid : Prop := cipherNullsRow.holds Try.pinned (OpenSpec.ofChange cipherNullsSpec)

/-- ITS FALSE NEIGHBOUR: 'it returns false'. Refute it at one input. -/
def cipherNullsWrong : ChangeSpec := { name := "cipherNulls", fn := fun _ => fun
  | [d1, d2, d3, d4, d5] => { results := [.lit (.bool false)], args := [d1, d2, d3, d4, d5] }
  | _ => none }
def CipherNullsWrongFalsely : Prop := cipherNullsRow.holds Try.pinned (OpenSpec.ofChange cipherNullsWrong)

/-- 'glisterlaw04.CipherLost': WHATEVER THE INPUT: true; the input reads as it did. -/
def cipherLostSpec : ChangeSpec := { name := "cipherLost", fn := fun _ => fun
  | [d1, d2, d3, d4, d5] => { results := [.lit (.bool true)], args := [d1, d2, d3, d4, d5] }
  | _ => none }
def cipherLostRow : OpenClaim := { program := "ytmplgcefhpobgaa", sum := "0fa0493b82d82f04c71cf5deac1aac337da5ab356a91a6ef87771e36dbfb0ed4", func := "glister/glisterlaw04.CipherLost", spec := "cipherLost", unfollowed := true, recurses := true, plainKeys := false, apart := false }
def CipherLostSaid : Prop := cipherLostRow.holds Try.pinned (OpenSpec.ofChange cipherLostSpec)

/-- ITS FALSE NEIGHBOUR: 'it returns false'. Refute it at one input. -/
def cipherLostWrong : ChangeSpec := { name := "cipherLost", fn := fun _ => fun
  | [d1, d2, d3, d4, d5] => { results := [.lit (.bool false)], args := [d1, d2, d3, d4, d5] }
  | _ => none }
def CipherLostWrongFalsely : Prop := cipherLostRow.holds Try.pinned (OpenSpec.ofChange cipherLostWrong)

/-- 'glisterlaw04.CipherKept': WHATEVER THE INPUT: true; the input reads as it did. -/
def cipherKeptSpec : ChangeSpec := { name := "cipherKept", fn := fun _ => fun
  | [d1, d2, d3] => { results := [.lit (.bool true)], args := [d1, d2, d3] }
  | _ => none }
def cipherKeptRow : OpenClaim := { program := "ytmplgcefhpobgaa", sum := "0fa0493b82d82f04c71cf5deac1aac337da5ab356a91a6ef87771e36dbfb0ed4", func := "glister/glisterlaw04.CipherKept", spec := "cipherKept", unfollowed := true, recurses := true, plainKeys := false, apart := false }
def CipherKeptSaid : Prop := cipherKeptRow.holds Try.pinned (OpenSpec.ofChange cipherKeptSpec)

/-- ITS FALSE NEIGHBOUR: 'it returns false'. Refute it at one input. -/
def cipherKeptWrong : ChangeSpec := { name := "cipherKept", fn := fun _ => fun
  | [d1, d2, d3] => { results := [.lit (.bool false)], args := [d1, d2, d3] }
  | _ => none }
def CipherKeptWrongFalsely : Prop := cipherKeptRow.holds Try.pinned (OpenSpec.ofChange cipherKeptWrong)

/-- 'glisterlaw04.CipherFewest': WHATEVER THE INPUT: true; the input reads as it did. -/
def cipherFewestSpec : ChangeSpec := { name := "cipherFewest", fn := fun _ => fun
  | [d1, d2, d3, d4] => { results := [.lit (.bool true)], args := [d1, d2, d3, d4] }
  | _ => none }
def cipherFewestRow : OpenClaim := { program := "ytmplgcefhpobgaa", sum := "0fa0493b82d82f04c71cf5deac1aac337da5ab356a91a6ef87771e36dbfb0ed4", func := "glister/glisterlaw04.CipherFewest", spec := "cipherFewest", unfollowed := true, recurses := true, plainKeys := false, apart := false }
def CipherFewestSaid : Prop := cipherFewestRow.holds Try.pinned (OpenSpec.ofChange cipherFewestSpec)

/-- ITS FALSE NEIGHBOUR: 'it returns false'. Refute it at one input. -/
def cipherFewestWrong : ChangeSpec := { name := "cipherFewest", fn := fun _ => fun
  | [d1, d2, d3, d4] => { results := [.lit (.bool false)], args := [d1, d2, d3, d4] }
  | _ => none }
def CipherFewestWrongFalsely : Prop := cipherFewestRow.holds Try.pinned (OpenSpec.ofChange cipherFewestWrong)

/-- 'glisterlaw04.CipherFits': WHATEVER THE INPUT: true; the input reads as it did. -/
def cipherFitsSpec : ChangeSpec := { name := "cipherFits", fn := fun _ => fun
  | [d1, d2, d3, d4] => { results := [.lit (.bool true)], args := [d1, d2, d3, d4] }
  | _ => none }
def cipherFitsRow : OpenClaim := { program := "ytmplgcefhpobgaa", sum := "0fa0493b82d82f04c71cf5deac1aac337da5ab356a91a6ef87771e36dbfb0ed4", func := "glister/glisterlaw04.CipherFits", spec := "cipherFits", unfollowed := true, recurses := true, plainKeys := false, apart := false }
def CipherFitsSaid : Prop := cipherFitsRow.holds Try.pinned (OpenSpec.ofChange cipherFitsSpec)

/-- ITS FALSE NEIGHBOUR: 'it returns false'. Refute it at one input. -/
def cipherFitsWrong : ChangeSpec := { name := "cipherFits", fn := fun _ => fun
  | [d1, d2, d3, d4] => { results := [.lit (.bool false)], args := [d1, d2, d3, d4] }
  | _ => none }
def CipherFitsWrongFalsely : Prop := cipherFitsRow.holds Try.pinned (OpenSpec.ofChange cipherFitsWrong)

/-- 'glisterlaw04.CipherKnown': WHATEVER THE INPUT: true; the input reads as it did. -/
def cipherKnownSpec : ChangeSpec := { name := "cipherKnown", fn := fun _ => fun
  | [d1, d2, d3, d4] => { results := [.lit (.bool true)], args := [d1, d2, d3, d4] }
  | _ => none }
def cipherKnownRow : OpenClaim := { program := "ytmplgcefhpobgaa", sum := "0fa0493b82d82f04c71cf5deac1aac337da5ab356a91a6ef87771e36dbfb0ed4", func := "glister/glisterlaw04.CipherKnown", spec := "cipherKnown", unfollowed := true, recurses := true, plainKeys := false, apart := false }
def CipherKnownSaid : Prop := cipherKnownRow.holds Try.pinned (OpenSpec.ofChange cipherKnownSpec)

/-- ITS FALSE NEIGHBOUR: 'it returns false'. Refute it at one input. -/
def cipherKnownWrong : ChangeSpec := { name := "cipherKnown", fn := fun _ => fun
  | [d1, d2, d3, d4] => { results := [.lit (.bool false)], args := [d1, d2, d3, d4] }
  | _ => none }
def CipherKnownWrongFalsely : Prop := cipherKnownRow.holds Try.pinned (OpenSpec.ofChange cipherKnownWrong)

/-- 'glisterlaw04.CipherMore': WHATEVER THE INPUT: true; the input reads as it did. -/
def cipherMoreSpec : ChangeSpec := { name := "cipherMore", fn := fun _ => fun
  | [d1, d2, d3, d4, d5] => { results := [.lit (.bool true)], args := [d1, d2, d3, d4, d5] }
  | _ => none }
def cipherMoreRow : OpenClaim := { program := "ytmplgcefhpobgaa", sum := "0fa0493b82d82f04c71cf5deac1aac337da5ab356a91a6ef87771e36dbfb0ed4", func := "glister/glisterlaw04.CipherMore", spec := "cipherMore", unfollowed := true, recurses := true, plainKeys := false, apart := false }
def CipherMoreSaid : Prop := cipherMoreRow.holds Try.pinned (OpenSpec.ofChange cipherMoreSpec)

/-- ITS FALSE NEIGHBOUR: 'it returns false'. Refute it at one input. -/
def cipherMoreWrong : ChangeSpec := { name := "cipherMore", fn := fun _ => fun
  | [d1, d2, d3, d4, d5] => { results := [.lit (.bool false)], args := [d1, d2, d3, d4, d5] }
  | _ => none }
def CipherMoreWrongFalsely : Prop := cipherMoreRow.holds Try.pinned (OpenSpec.ofChange cipherMoreWrong)

/-- 'glisterlaw04.CipherNames': WHATEVER THE INPUT: true; the input reads as it did. -/
def cipherNamesSpec : ChangeSpec := { name := "cipherNames", fn := fun _ => fun
  | [] => { results := [.lit (.bool true)], args := [] }
  | _ => none }
def cipherNamesRow : OpenClaim := { program := "ytmplgcefhpobgaa", sum := "0fa0493b82d82f04c71cf5deac1aac337da5ab356a91a6ef87771e36dbfb0ed4", func := "glister/glisterlaw04.CipherNames", spec := "cipherNames", unfollowed := true, recurses := true, plainKeys := false, apart := false }
def CipherNamesSaid : Prop := cipherNamesRow.holds Try.pinned (OpenSpec.ofChange cipherNamesSpec)

/-- ITS FALSE NEIGHBOUR: 'it returns false'. Refute it at one input. -/
def cipherNamesWrong : ChangeSpec := { name := "cipherNames", fn := fun _ => fun
  | [] => { results := [.lit (.bool false)], args := [] }
  | _ => none }
def CipherNamesWrongFalsely : Prop := cipherNamesRow.holds Try.pinned (OpenSpec.ofChange cipherNamesWrong)

/- THE SECOND FORM. 'bulk': how many values and letters a reading holds, each counted each time it is reached (what is shared counts as often as it is met; a slice's spare places count too). A statement '..UptoSaid' is the law's where the arguments, and the package variables that the reading takes, are together of bulk at most 1048576: NARROWER than '..Said'. Prove '..Said' where nothing that the law and all that it calls make is longer than what came in: it says more and counts as full. Else prove '..UptoSaid'. A law counts once. -/
mutual
def uptoBulk {H : Type} : DataW H → Nat
  | .lit (.string bytes) => bytes.length + 1
  | .lit _ => 1
  | .nil => 1
  | .ptr d => uptoBulk d + 1
  | .slice elems spare => uptoBulkAll elems + uptoBulkAll spare + 1
  | .agg parts => uptoBulkAll parts + 1
  | .iface _ d => uptoBulk d + 1
  | .map entries => uptoBulkEntries entries + 1
  | .held _ => 1
def uptoBulkAll {H : Type} : List (DataW H) → Nat
  | [] => 0
  | d :: r => uptoBulk d + uptoBulkAll r
def uptoBulkEntries {H : Type} : List (Lit × DataW H) → Nat
  | [] => 0
  | x :: r => uptoBulkEntry x + uptoBulkEntries r
def uptoBulkEntry {H : Type} : Lit × DataW H → Nat
  | (.string bytes, d) => bytes.length + uptoBulk d + 1
  | (_, d) => uptoBulk d + 1
 end
def uptoSmall : (H : Type) → List (DataW H) → Bool := fun _ ds => decide (uptoBulkAll ds ≤ 1048576)
def OpenSpec.upto (s : _root_.Go.ChangeSpec) : _root_.Go.OpenSpec := { _root_.Go.OpenSpec.ofChange s with cond := some uptoSmall }

/-- 'glisterlaw04.CipherCodes', WHERE WHAT IT READS IS OF BULK AT MOST 1048576: true; the input reads as it did. -/
def cipherCodesUptoRow : OpenClaim := { program := "ytmplgcefhpobgaa", sum := "0fa0493b82d82f04c71cf5deac1aac337da5ab356a91a6ef87771e36dbfb0ed4", func := "glister/glisterlaw04.CipherCodes", spec := "cipherCodes", unfollowed := true, recurses := true, plainKeys := false, apart := false, narrowed := true }
def CipherCodesUptoSaid : Prop := cipherCodesUptoRow.holds Try.pinned (OpenSpec.upto cipherCodesSpec)

/-- 'glisterlaw04.CipherDecodes', WHERE WHAT IT READS IS OF BULK AT MOST 1048576: true; the input reads as it did. -/
def cipherDecodesUptoRow : OpenClaim := { program := "ytmplgcefhpobgaa", sum := "0fa0493b82d82f04c71cf5deac1aac337da5ab356a91a6ef87771e36dbfb0ed4", func := "glister/glisterlaw04.CipherDecodes", spec := "cipherDecodes", unfollowed := true, recurses := true, plainKeys := false, apart := false, narrowed := true }
def CipherDecodesUptoSaid : Prop := cipherDecodesUptoRow.holds Try.pinned (OpenSpec.upto cipherDecodesSpec)

/-- 'glisterlaw04.CipherExposes', WHERE WHAT IT READS IS OF BULK AT MOST 1048576: true; the input reads as it did. -/
def cipherExposesUptoRow : OpenClaim := { program := "ytmplgcefhpobgaa", sum := "0fa0493b82d82f04c71cf5deac1aac337da5ab356a91a6ef87771e36dbfb0ed4", func := "glister/glisterlaw04.CipherExposes", spec := "cipherExposes", unfollowed := true, recurses := true, plainKeys := false, apart := false, narrowed := true }
def CipherExposesUptoSaid : Prop := cipherExposesUptoRow.holds Try.pinned (OpenSpec.upto cipherExposesSpec)

/-- 'glisterlaw04.CipherBack', WHERE WHAT IT READS IS OF BULK AT MOST 1048576: true; the input reads as it did. -/
def cipherBackUptoRow : OpenClaim := { program := "ytmplgcefhpobgaa", sum := "0fa0493b82d82f04c71cf5deac1aac337da5ab356a91a6ef87771e36dbfb0ed4", func := "glister/glisterlaw04.CipherBack", spec := "cipherBack", unfollowed := true, recurses := true, plainKeys := false, apart := false, narrowed := true }
def CipherBackUptoSaid : Prop := cipherBackUptoRow.holds Try.pinned (OpenSpec.upto cipherBackSpec)

/-- 'glisterlaw04.CipherWrong', WHERE WHAT IT READS IS OF BULK AT MOST 1048576: true; the input reads as it did. -/
def cipherWrongUptoRow : OpenClaim := { program := "ytmplgcefhpobgaa", sum := "0fa0493b82d82f04c71cf5deac1aac337da5ab356a91a6ef87771e36dbfb0ed4", func := "glister/glisterlaw04.CipherWrong", spec := "cipherWrong", unfollowed := true, recurses := true, plainKeys := false, apart := false, narrowed := true }
def CipherWrongUptoSaid : Prop := cipherWrongUptoRow.holds Try.pinned (OpenSpec.upto cipherWrongSpec)

/-- 'glisterlaw04.CipherNulls', WHERE WHAT IT READS IS OF BULK AT MOST 1048576: true; the input reads as it did. -/
def cipherNullsUptoRow : OpenClaim := { program := "ytmplgcefhpobgaa", sum := "0fa0493b82d82f04c71cf5deac1aac337da5ab356a91a6ef87771e36dbfb0ed4", func := "glister/glisterlaw04.CipherNulls", spec := "cipherNulls", unfollowed := true, recurses := true, plainKeys := false, apart := false, narrowed := true }
def CipherNullsUptoSaid : Prop := cipherNullsUptoRow.holds Try.pinned (OpenSpec.upto cipherNullsSpec)

/-- 'glisterlaw04.CipherLost', WHERE WHAT IT READS IS OF BULK AT MOST 1048576: true; the input reads as it did. -/
def cipherLostUptoRow : OpenClaim := { program := "ytmplgcefhpobgaa", sum := "0fa0493b82d82f04c71cf5deac1aac337da5ab356a91a6ef87771e36dbfb0ed4", func := "glister/glisterlaw04.CipherLost", spec := "cipherLost", unfollowed := true, recurses := true, plainKeys := false, apart := false, narrowed := true }
def CipherLostUptoSaid : Prop := cipherLostUptoRow.holds Try.pinned (OpenSpec.upto cipherLostSpec)

/-- 'glisterlaw04.CipherKept', WHERE WHAT IT READS IS OF BULK AT MOST 1048576: true; the input reads as it did. -/
def cipherKeptUptoRow : OpenClaim := { program := "ytmplgcefhpobgaa", sum := "0fa0493b82d82f04c71cf5deac1aac337da5ab356a91a6ef87771e36dbfb0ed4", func := "glister/glisterlaw04.CipherKept", spec := "cipherKept", unfollowed := true, recurses := true, plainKeys := false, apart := false, narrowed := true }
def CipherKeptUptoSaid : Prop := cipherKeptUptoRow.holds Try.pinned (OpenSpec.upto cipherKeptSpec)

/-- 'glisterlaw04.CipherFewest', WHERE WHAT IT READS IS OF BULK AT MOST 1048576: true; the input reads as it did. -/
def cipherFewestUptoRow : OpenClaim := { program := "ytmplgcefhpobgaa", sum := "0fa0493b82d82f04c71cf5deac1aac337da5ab356a91a6ef87771e36dbfb0ed4", func := "glister/glisterlaw04.CipherFewest", spec := "cipherFewest", unfollowed := true, recurses := true, plainKeys := false, apart := false, narrowed := true }
def CipherFewestUptoSaid : Prop := cipherFewestUptoRow.holds Try.pinned (OpenSpec.upto cipherFewestSpec)

/-- 'glisterlaw04.CipherFits', WHERE WHAT IT READS IS OF BULK AT MOST 1048576: true; the input reads as it did. -/
def cipherFitsUptoRow : OpenClaim := { program := "ytmplgcefhpobgaa", sum := "0fa0493b82d82f04c71cf5deac1aac337da5ab356a91a6ef87771e36dbfb0ed4", func := "glister/glisterlaw04.CipherFits", spec := "cipherFits", unfollowed := true, recurses := true, plainKeys := false, apart := false, narrowed := true }
def CipherFitsUptoSaid : Prop := cipherFitsUptoRow.holds Try.pinned (OpenSpec.upto cipherFitsSpec)

/-- 'glisterlaw04.CipherKnown', WHERE WHAT IT READS IS OF BULK AT MOST 1048576: true; the input reads as it did. -/
def cipherKnownUptoRow : OpenClaim := { program := "ytmplgcefhpobgaa", sum := "0fa0493b82d82f04c71cf5deac1aac337da5ab356a91a6ef87771e36dbfb0ed4", func := "glister/glisterlaw04.CipherKnown", spec := "cipherKnown", unfollowed := true, recurses := true, plainKeys := false, apart := false, narrowed := true }
def CipherKnownUptoSaid : Prop := cipherKnownUptoRow.holds Try.pinned (OpenSpec.upto cipherKnownSpec)

/-- 'glisterlaw04.CipherMore', WHERE WHAT IT READS IS OF BULK AT MOST 1048576: true; the input reads as it did. -/
def cipherMoreUptoRow : OpenClaim := { program := "ytmplgcefhpobgaa", sum := "0fa0493b82d82f04c71cf5deac1aac337da5ab356a91a6ef87771e36dbfb0ed4", func := "glister/glisterlaw04.CipherMore", spec := "cipherMore", unfollowed := true, recurses := true, plainKeys := false, apart := false, narrowed := true }
def CipherMoreUptoSaid : Prop := cipherMoreUptoRow.holds Try.pinned (OpenSpec.upto cipherMoreSpec)

/-- 'glisterlaw04.CipherNames', WHERE WHAT IT READS IS OF BULK AT MOST 1048576: true; the input reads as it did. -/
def cipherNamesUptoRow : OpenClaim := { program := "ytmplgcefhpobgaa", sum := "0fa0493b82d82f04c71cf5deac1aac337da5ab356a91a6ef87771e36dbfb0ed4", func := "glister/glisterlaw04.CipherNames", spec := "cipherNames", unfollowed := true, recurses := true, plainKeys := false, apart := false, narrowed := true }
def CipherNamesUptoSaid : Prop := cipherNamesUptoRow.holds Try.pinned (OpenSpec.upto cipherNamesSpec)

end Rows
end Go.Proofs.Ytmplgcefhpobgaa
