/-
  No cell of these rows narrows 'for every input' (looked for: loops, veiled, ifaces, maps, wideKeys, modest, calm, conditions, laid).
  DERIVED. THE GIVEN ROWS OF THIS SEAT. 21 by the template 'for every input the law returns true; each argument reads behind the call as it read before'; 0 by the template 'total and deterministic' (their statements: YtbiijcehgiibeaaTotals.lean).
  GIVEN WITH THE SEED: the statements are not yours to turn. If you find one false, say at which input.
  Laid BY PROGRAM, IN A SANDBOX (cutbox-rows.mjs): the forced cells as the released guide's own fill.sh prints them over the translation 16bf97c03a2c7797… (all of the seat's roots in one cut). By AI agents, Wed Nov 11 2026. No macro, syntax, notation, axiom, sorry.
-/
import Derived.Test.YtbiijcehgiibeaaChecked
import GoSem.Claim
import GoSem.ClaimJoined
import GoSem.ClaimMapViews
import Derived.JoinedTies
import Derived.KernelRfl
namespace Go.Proofs.Ytbiijcehgiibeaa
/- THE CELL 'sum', in the pinned program and in every row, IS THE sha256 OF THE DUMP (.gsa) THAT YtbiijcehgiibeaaProg.lean LOADS. Nothing in Lean hashes anything: it is a label: what it is worth is what the hold of that sum in a sandbox is worth. -/
noncomputable def Try.pinned : Pinned := { name := "ytbiijcehgiibeaa", sum := "16bf97c03a2c779707ff42a95ce2db2a6d605e5e2ffb9974252a2bd56cc834be", checked := Try.checked }
namespace Rows
def none {H : Type} : Left H := { results := [], args := [] }

/-- 'reevelaw02.SealAdds': WHATEVER THE INPUT: true; the input reads as it did. -/
def sealAddsSpec : ChangeSpec := { name := "sealAdds", fn := fun _ => fun
  | [d1, d2] => { results := [.lit (.bool true)], args := [d1, d2] }
  | _ => none }
def sealAddsRow : OpenClaim := { program := "ytbiijcehgiibeaa", sum := "16bf97c03a2c779707ff42a95ce2db2a6d605e5e2ffb9974252a2bd56cc834be", func := "reeve/reevelaw02.SealAdds", spec := "sealAdds", apart := false }
def SealAddsSaid : Prop := sealAddsRow.holds Try.pinned (OpenSpec.ofChange sealAddsSpec)

/-- ITS FALSE NEIGHBOUR: 'it returns false'. Refute it at one input. -/
def sealAddsWrong : ChangeSpec := { name := "sealAdds", fn := fun _ => fun
  | [d1, d2] => { results := [.lit (.bool false)], args := [d1, d2] }
  | _ => none }
def SealAddsWrongFalsely : Prop := sealAddsRow.holds Try.pinned (OpenSpec.ofChange sealAddsWrong)

/-- 'reevelaw02.SealTells': WHATEVER THE INPUT: true; the input reads as it did. -/
def sealTellsSpec : ChangeSpec := { name := "sealTells", fn := fun _ => fun
  | [d1, d2, d3, d4] => { results := [.lit (.bool true)], args := [d1, d2, d3, d4] }
  | _ => none }
def sealTellsRow : OpenClaim := { program := "ytbiijcehgiibeaa", sum := "16bf97c03a2c779707ff42a95ce2db2a6d605e5e2ffb9974252a2bd56cc834be", func := "reeve/reevelaw02.SealTells", spec := "sealTells", apart := false }
def SealTellsSaid : Prop := sealTellsRow.holds Try.pinned (OpenSpec.ofChange sealTellsSpec)

/-- ITS FALSE NEIGHBOUR: 'it returns false'. Refute it at one input. -/
def sealTellsWrong : ChangeSpec := { name := "sealTells", fn := fun _ => fun
  | [d1, d2, d3, d4] => { results := [.lit (.bool false)], args := [d1, d2, d3, d4] }
  | _ => none }
def SealTellsWrongFalsely : Prop := sealTellsRow.holds Try.pinned (OpenSpec.ofChange sealTellsWrong)

/-- 'reevelaw02.SealReads': WHATEVER THE INPUT: true; the input reads as it did. -/
def sealReadsSpec : ChangeSpec := { name := "sealReads", fn := fun _ => fun
  | [d1, d2, d3] => { results := [.lit (.bool true)], args := [d1, d2, d3] }
  | _ => none }
def sealReadsRow : OpenClaim := { program := "ytbiijcehgiibeaa", sum := "16bf97c03a2c779707ff42a95ce2db2a6d605e5e2ffb9974252a2bd56cc834be", func := "reeve/reevelaw02.SealReads", spec := "sealReads", apart := false }
def SealReadsSaid : Prop := sealReadsRow.holds Try.pinned (OpenSpec.ofChange sealReadsSpec)

/-- ITS FALSE NEIGHBOUR: 'it returns false'. Refute it at one input. -/
def sealReadsWrong : ChangeSpec := { name := "sealReads", fn := fun _ => fun
  | [d1, d2, d3] => { results := [.lit (.bool false)], args := [d1, d2, d3] }
  | _ => none }
def SealReadsWrongFalsely : Prop := sealReadsRow.holds Try.pinned (OpenSpec.ofChange sealReadsWrong)

/-- 'reevelaw02.SealBack': WHATEVER THE INPUT: true; the input reads as it did. -/
def sealBackSpec : ChangeSpec := { name := "sealBack", fn := fun _ => fun
  | [d1, d2, d3] => { results := [.lit (.bool true)], args := [d1, d2, d3] }
  | _ => none }
def sealBackRow : OpenClaim := { program := "ytbiijcehgiibeaa", sum := "16bf97c03a2c779707ff42a95ce2db2a6d605e5e2ffb9974252a2bd56cc834be", func := "reeve/reevelaw02.SealBack", spec := "sealBack", apart := false }
def SealBackSaid : Prop := sealBackRow.holds Try.pinned (OpenSpec.ofChange sealBackSpec)

/-- ITS FALSE NEIGHBOUR: 'it returns false'. Refute it at one input. -/
def sealBackWrong : ChangeSpec := { name := "sealBack", fn := fun _ => fun
  | [d1, d2, d3] => { results := [.lit (.bool false)], args := [d1, d2, d3] }
  | _ => none }
def SealBackWrongFalsely : Prop := sealBackRow.holds Try.pinned (OpenSpec.ofChange sealBackWrong)

/-- 'reevelaw02.SealJoins': WHATEVER THE INPUT: true; the input reads as it did. -/
def sealJoinsSpec : ChangeSpec := { name := "sealJoins", fn := fun _ => fun
  | [d1, d2, d3] => { results := [.lit (.bool true)], args := [d1, d2, d3] }
  | _ => none }
def sealJoinsRow : OpenClaim := { program := "ytbiijcehgiibeaa", sum := "16bf97c03a2c779707ff42a95ce2db2a6d605e5e2ffb9974252a2bd56cc834be", func := "reeve/reevelaw02.SealJoins", spec := "sealJoins", apart := false }
def SealJoinsSaid : Prop := sealJoinsRow.holds Try.pinned (OpenSpec.ofChange sealJoinsSpec)

/-- ITS FALSE NEIGHBOUR: 'it returns false'. Refute it at one input. -/
def sealJoinsWrong : ChangeSpec := { name := "sealJoins", fn := fun _ => fun
  | [d1, d2, d3] => { results := [.lit (.bool false)], args := [d1, d2, d3] }
  | _ => none }
def SealJoinsWrongFalsely : Prop := sealJoinsRow.holds Try.pinned (OpenSpec.ofChange sealJoinsWrong)

/-- 'reevelaw04.PolicyUnlike': WHATEVER THE INPUT: true; the input reads as it did. -/
def policyUnlikeSpec : ChangeSpec := { name := "policyUnlike", fn := fun _ => fun
  | [d1, d2] => { results := [.lit (.bool true)], args := [d1, d2] }
  | _ => none }
def policyUnlikeRow : OpenClaim := { program := "ytbiijcehgiibeaa", sum := "16bf97c03a2c779707ff42a95ce2db2a6d605e5e2ffb9974252a2bd56cc834be", func := "reeve/reevelaw04.PolicyUnlike", spec := "policyUnlike", apart := false }
def PolicyUnlikeSaid : Prop := policyUnlikeRow.holds Try.pinned (OpenSpec.ofChange policyUnlikeSpec)

/-- ITS FALSE NEIGHBOUR: 'it returns false'. Refute it at one input. -/
def policyUnlikeWrong : ChangeSpec := { name := "policyUnlike", fn := fun _ => fun
  | [d1, d2] => { results := [.lit (.bool false)], args := [d1, d2] }
  | _ => none }
def PolicyUnlikeWrongFalsely : Prop := policyUnlikeRow.holds Try.pinned (OpenSpec.ofChange policyUnlikeWrong)

/-- 'reevelaw02.SealParts': WHATEVER THE INPUT: true; the input reads as it did. -/
def sealPartsSpec : ChangeSpec := { name := "sealParts", fn := fun _ => fun
  | [d1, d2, d3] => { results := [.lit (.bool true)], args := [d1, d2, d3] }
  | _ => none }
def sealPartsRow : OpenClaim := { program := "ytbiijcehgiibeaa", sum := "16bf97c03a2c779707ff42a95ce2db2a6d605e5e2ffb9974252a2bd56cc834be", func := "reeve/reevelaw02.SealParts", spec := "sealParts", apart := false }
def SealPartsSaid : Prop := sealPartsRow.holds Try.pinned (OpenSpec.ofChange sealPartsSpec)

/-- ITS FALSE NEIGHBOUR: 'it returns false'. Refute it at one input. -/
def sealPartsWrong : ChangeSpec := { name := "sealParts", fn := fun _ => fun
  | [d1, d2, d3] => { results := [.lit (.bool false)], args := [d1, d2, d3] }
  | _ => none }
def SealPartsWrongFalsely : Prop := sealPartsRow.holds Try.pinned (OpenSpec.ofChange sealPartsWrong)

/-- 'reevelaw04.PolicyCuts': WHATEVER THE INPUT: true; the input reads as it did. -/
def policyCutsSpec : ChangeSpec := { name := "policyCuts", fn := fun _ => fun
  | [d1, d2] => { results := [.lit (.bool true)], args := [d1, d2] }
  | _ => none }
def policyCutsRow : OpenClaim := { program := "ytbiijcehgiibeaa", sum := "16bf97c03a2c779707ff42a95ce2db2a6d605e5e2ffb9974252a2bd56cc834be", func := "reeve/reevelaw04.PolicyCuts", spec := "policyCuts", apart := false }
def PolicyCutsSaid : Prop := policyCutsRow.holds Try.pinned (OpenSpec.ofChange policyCutsSpec)

/-- ITS FALSE NEIGHBOUR: 'it returns false'. Refute it at one input. -/
def policyCutsWrong : ChangeSpec := { name := "policyCuts", fn := fun _ => fun
  | [d1, d2] => { results := [.lit (.bool false)], args := [d1, d2] }
  | _ => none }
def PolicyCutsWrongFalsely : Prop := policyCutsRow.holds Try.pinned (OpenSpec.ofChange policyCutsWrong)

/-- 'reevelaw02.SealField': WHATEVER THE INPUT: true; the input reads as it did. -/
def sealFieldSpec : ChangeSpec := { name := "sealField", fn := fun _ => fun
  | [d1, d2, d3, d4, d5] => { results := [.lit (.bool true)], args := [d1, d2, d3, d4, d5] }
  | _ => none }
def sealFieldRow : OpenClaim := { program := "ytbiijcehgiibeaa", sum := "16bf97c03a2c779707ff42a95ce2db2a6d605e5e2ffb9974252a2bd56cc834be", func := "reeve/reevelaw02.SealField", spec := "sealField", apart := false }
def SealFieldSaid : Prop := sealFieldRow.holds Try.pinned (OpenSpec.ofChange sealFieldSpec)

/-- ITS FALSE NEIGHBOUR: 'it returns false'. Refute it at one input. -/
def sealFieldWrong : ChangeSpec := { name := "sealField", fn := fun _ => fun
  | [d1, d2, d3, d4, d5] => { results := [.lit (.bool false)], args := [d1, d2, d3, d4, d5] }
  | _ => none }
def SealFieldWrongFalsely : Prop := sealFieldRow.holds Try.pinned (OpenSpec.ofChange sealFieldWrong)

/-- 'reevelaw02.SealOver': WHATEVER THE INPUT: true; the input reads as it did. -/
def sealOverSpec : ChangeSpec := { name := "sealOver", fn := fun _ => fun
  | [d1, d2, d3] => { results := [.lit (.bool true)], args := [d1, d2, d3] }
  | _ => none }
def sealOverRow : OpenClaim := { program := "ytbiijcehgiibeaa", sum := "16bf97c03a2c779707ff42a95ce2db2a6d605e5e2ffb9974252a2bd56cc834be", func := "reeve/reevelaw02.SealOver", spec := "sealOver", apart := false }
def SealOverSaid : Prop := sealOverRow.holds Try.pinned (OpenSpec.ofChange sealOverSpec)

/-- ITS FALSE NEIGHBOUR: 'it returns false'. Refute it at one input. -/
def sealOverWrong : ChangeSpec := { name := "sealOver", fn := fun _ => fun
  | [d1, d2, d3] => { results := [.lit (.bool false)], args := [d1, d2, d3] }
  | _ => none }
def SealOverWrongFalsely : Prop := sealOverRow.holds Try.pinned (OpenSpec.ofChange sealOverWrong)

/-- 'reevelaw02.SealReckons': WHATEVER THE INPUT: true; the input reads as it did. -/
def sealReckonsSpec : ChangeSpec := { name := "sealReckons", fn := fun _ => fun
  | [d1, d2, d3] => { results := [.lit (.bool true)], args := [d1, d2, d3] }
  | _ => none }
def sealReckonsRow : OpenClaim := { program := "ytbiijcehgiibeaa", sum := "16bf97c03a2c779707ff42a95ce2db2a6d605e5e2ffb9974252a2bd56cc834be", func := "reeve/reevelaw02.SealReckons", spec := "sealReckons", apart := false }
def SealReckonsSaid : Prop := sealReckonsRow.holds Try.pinned (OpenSpec.ofChange sealReckonsSpec)

/-- ITS FALSE NEIGHBOUR: 'it returns false'. Refute it at one input. -/
def sealReckonsWrong : ChangeSpec := { name := "sealReckons", fn := fun _ => fun
  | [d1, d2, d3] => { results := [.lit (.bool false)], args := [d1, d2, d3] }
  | _ => none }
def SealReckonsWrongFalsely : Prop := sealReckonsRow.holds Try.pinned (OpenSpec.ofChange sealReckonsWrong)

/-- 'reevelaw03.ChainGoes': WHATEVER THE INPUT: true; the input reads as it did. -/
def chainGoesSpec : ChangeSpec := { name := "chainGoes", fn := fun _ => fun
  | [d1, d2] => { results := [.lit (.bool true)], args := [d1, d2] }
  | _ => none }
def chainGoesRow : OpenClaim := { program := "ytbiijcehgiibeaa", sum := "16bf97c03a2c779707ff42a95ce2db2a6d605e5e2ffb9974252a2bd56cc834be", func := "reeve/reevelaw03.ChainGoes", spec := "chainGoes", apart := false }
def ChainGoesSaid : Prop := chainGoesRow.holds Try.pinned (OpenSpec.ofChange chainGoesSpec)

/-- ITS FALSE NEIGHBOUR: 'it returns false'. Refute it at one input. -/
def chainGoesWrong : ChangeSpec := { name := "chainGoes", fn := fun _ => fun
  | [d1, d2] => { results := [.lit (.bool false)], args := [d1, d2] }
  | _ => none }
def ChainGoesWrongFalsely : Prop := chainGoesRow.holds Try.pinned (OpenSpec.ofChange chainGoesWrong)

/-- 'reevelaw03.ChainWhole': WHATEVER THE INPUT: true; the input reads as it did. -/
def chainWholeSpec : ChangeSpec := { name := "chainWhole", fn := fun _ => fun
  | [d] => { results := [.lit (.bool true)], args := [d] }
  | _ => none }
def chainWholeRow : OpenClaim := { program := "ytbiijcehgiibeaa", sum := "16bf97c03a2c779707ff42a95ce2db2a6d605e5e2ffb9974252a2bd56cc834be", func := "reeve/reevelaw03.ChainWhole", spec := "chainWhole", apart := false }
def ChainWholeSaid : Prop := chainWholeRow.holds Try.pinned (OpenSpec.ofChange chainWholeSpec)

/-- ITS FALSE NEIGHBOUR: 'it returns false'. Refute it at one input. -/
def chainWholeWrong : ChangeSpec := { name := "chainWhole", fn := fun _ => fun
  | [d] => { results := [.lit (.bool false)], args := [d] }
  | _ => none }
def ChainWholeWrongFalsely : Prop := chainWholeRow.holds Try.pinned (OpenSpec.ofChange chainWholeWrong)

/-- 'reevelaw03.ChainChecks': WHATEVER THE INPUT: true; the input reads as it did. -/
def chainChecksSpec : ChangeSpec := { name := "chainChecks", fn := fun _ => fun
  | [d1, d2] => { results := [.lit (.bool true)], args := [d1, d2] }
  | _ => none }
def chainChecksRow : OpenClaim := { program := "ytbiijcehgiibeaa", sum := "16bf97c03a2c779707ff42a95ce2db2a6d605e5e2ffb9974252a2bd56cc834be", func := "reeve/reevelaw03.ChainChecks", spec := "chainChecks", apart := false }
def ChainChecksSaid : Prop := chainChecksRow.holds Try.pinned (OpenSpec.ofChange chainChecksSpec)

/-- ITS FALSE NEIGHBOUR: 'it returns false'. Refute it at one input. -/
def chainChecksWrong : ChangeSpec := { name := "chainChecks", fn := fun _ => fun
  | [d1, d2] => { results := [.lit (.bool false)], args := [d1, d2] }
  | _ => none }
def ChainChecksWrongFalsely : Prop := chainChecksRow.holds Try.pinned (OpenSpec.ofChange chainChecksWrong)

/-- 'reevelaw03.ChainTells': WHATEVER THE INPUT: true; the input reads as it did. -/
def chainTellsSpec : ChangeSpec := { name := "chainTells", fn := fun _ => fun
  | [d1, d2, d3, d4] => { results := [.lit (.bool true)], args := [d1, d2, d3, d4] }
  | _ => none }
def chainTellsRow : OpenClaim := { program := "ytbiijcehgiibeaa", sum := "16bf97c03a2c779707ff42a95ce2db2a6d605e5e2ffb9974252a2bd56cc834be", func := "reeve/reevelaw03.ChainTells", spec := "chainTells", apart := false }
def ChainTellsSaid : Prop := chainTellsRow.holds Try.pinned (OpenSpec.ofChange chainTellsSpec)

/-- ITS FALSE NEIGHBOUR: 'it returns false'. Refute it at one input. -/
def chainTellsWrong : ChangeSpec := { name := "chainTells", fn := fun _ => fun
  | [d1, d2, d3, d4] => { results := [.lit (.bool false)], args := [d1, d2, d3, d4] }
  | _ => none }
def ChainTellsWrongFalsely : Prop := chainTellsRow.holds Try.pinned (OpenSpec.ofChange chainTellsWrong)

/-- 'reevelaw03.ChainStarts': WHATEVER THE INPUT: true; the input reads as it did. -/
def chainStartsSpec : ChangeSpec := { name := "chainStarts", fn := fun _ => fun
  | [d1, d2, d3] => { results := [.lit (.bool true)], args := [d1, d2, d3] }
  | _ => none }
def chainStartsRow : OpenClaim := { program := "ytbiijcehgiibeaa", sum := "16bf97c03a2c779707ff42a95ce2db2a6d605e5e2ffb9974252a2bd56cc834be", func := "reeve/reevelaw03.ChainStarts", spec := "chainStarts", apart := false }
def ChainStartsSaid : Prop := chainStartsRow.holds Try.pinned (OpenSpec.ofChange chainStartsSpec)

/-- ITS FALSE NEIGHBOUR: 'it returns false'. Refute it at one input. -/
def chainStartsWrong : ChangeSpec := { name := "chainStarts", fn := fun _ => fun
  | [d1, d2, d3] => { results := [.lit (.bool false)], args := [d1, d2, d3] }
  | _ => none }
def ChainStartsWrongFalsely : Prop := chainStartsRow.holds Try.pinned (OpenSpec.ofChange chainStartsWrong)

/-- 'reevelaw03.ChainReads': WHATEVER THE INPUT: true; the input reads as it did. -/
def chainReadsSpec : ChangeSpec := { name := "chainReads", fn := fun _ => fun
  | [d1, d2, d3] => { results := [.lit (.bool true)], args := [d1, d2, d3] }
  | _ => none }
def chainReadsRow : OpenClaim := { program := "ytbiijcehgiibeaa", sum := "16bf97c03a2c779707ff42a95ce2db2a6d605e5e2ffb9974252a2bd56cc834be", func := "reeve/reevelaw03.ChainReads", spec := "chainReads", apart := false }
def ChainReadsSaid : Prop := chainReadsRow.holds Try.pinned (OpenSpec.ofChange chainReadsSpec)

/-- ITS FALSE NEIGHBOUR: 'it returns false'. Refute it at one input. -/
def chainReadsWrong : ChangeSpec := { name := "chainReads", fn := fun _ => fun
  | [d1, d2, d3] => { results := [.lit (.bool false)], args := [d1, d2, d3] }
  | _ => none }
def ChainReadsWrongFalsely : Prop := chainReadsRow.holds Try.pinned (OpenSpec.ofChange chainReadsWrong)

/-- 'reevelaw03.ChainBack': WHATEVER THE INPUT: true; the input reads as it did. -/
def chainBackSpec : ChangeSpec := { name := "chainBack", fn := fun _ => fun
  | [d1, d2, d3] => { results := [.lit (.bool true)], args := [d1, d2, d3] }
  | _ => none }
def chainBackRow : OpenClaim := { program := "ytbiijcehgiibeaa", sum := "16bf97c03a2c779707ff42a95ce2db2a6d605e5e2ffb9974252a2bd56cc834be", func := "reeve/reevelaw03.ChainBack", spec := "chainBack", apart := false }
def ChainBackSaid : Prop := chainBackRow.holds Try.pinned (OpenSpec.ofChange chainBackSpec)

/-- ITS FALSE NEIGHBOUR: 'it returns false'. Refute it at one input. -/
def chainBackWrong : ChangeSpec := { name := "chainBack", fn := fun _ => fun
  | [d1, d2, d3] => { results := [.lit (.bool false)], args := [d1, d2, d3] }
  | _ => none }
def ChainBackWrongFalsely : Prop := chainBackRow.holds Try.pinned (OpenSpec.ofChange chainBackWrong)

/-- 'reevelaw04.PolicyHeads': WHATEVER THE INPUT: true; the input reads as it did. -/
def policyHeadsSpec : ChangeSpec := { name := "policyHeads", fn := fun _ => fun
  | [d] => { results := [.lit (.bool true)], args := [d] }
  | _ => none }
def policyHeadsRow : OpenClaim := { program := "ytbiijcehgiibeaa", sum := "16bf97c03a2c779707ff42a95ce2db2a6d605e5e2ffb9974252a2bd56cc834be", func := "reeve/reevelaw04.PolicyHeads", spec := "policyHeads", apart := false }
def PolicyHeadsSaid : Prop := policyHeadsRow.holds Try.pinned (OpenSpec.ofChange policyHeadsSpec)

/-- ITS FALSE NEIGHBOUR: 'it returns false'. Refute it at one input. -/
def policyHeadsWrong : ChangeSpec := { name := "policyHeads", fn := fun _ => fun
  | [d] => { results := [.lit (.bool false)], args := [d] }
  | _ => none }
def PolicyHeadsWrongFalsely : Prop := policyHeadsRow.holds Try.pinned (OpenSpec.ofChange policyHeadsWrong)

/-- 'reevelaw04.PolicyReads': WHATEVER THE INPUT: true; the input reads as it did. -/
def policyReadsSpec : ChangeSpec := { name := "policyReads", fn := fun _ => fun
  | [d] => { results := [.lit (.bool true)], args := [d] }
  | _ => none }
def policyReadsRow : OpenClaim := { program := "ytbiijcehgiibeaa", sum := "16bf97c03a2c779707ff42a95ce2db2a6d605e5e2ffb9974252a2bd56cc834be", func := "reeve/reevelaw04.PolicyReads", spec := "policyReads", apart := false }
def PolicyReadsSaid : Prop := policyReadsRow.holds Try.pinned (OpenSpec.ofChange policyReadsSpec)

/-- ITS FALSE NEIGHBOUR: 'it returns false'. Refute it at one input. -/
def policyReadsWrong : ChangeSpec := { name := "policyReads", fn := fun _ => fun
  | [d] => { results := [.lit (.bool false)], args := [d] }
  | _ => none }
def PolicyReadsWrongFalsely : Prop := policyReadsRow.holds Try.pinned (OpenSpec.ofChange policyReadsWrong)

/-- 'reevelaw04.PolicyBack': WHATEVER THE INPUT: true; the input reads as it did. -/
def policyBackSpec : ChangeSpec := { name := "policyBack", fn := fun _ => fun
  | [d1, d2, d3, d4, d5] => { results := [.lit (.bool true)], args := [d1, d2, d3, d4, d5] }
  | _ => none }
def policyBackRow : OpenClaim := { program := "ytbiijcehgiibeaa", sum := "16bf97c03a2c779707ff42a95ce2db2a6d605e5e2ffb9974252a2bd56cc834be", func := "reeve/reevelaw04.PolicyBack", spec := "policyBack", apart := false }
def PolicyBackSaid : Prop := policyBackRow.holds Try.pinned (OpenSpec.ofChange policyBackSpec)

/-- ITS FALSE NEIGHBOUR: 'it returns false'. Refute it at one input. -/
def policyBackWrong : ChangeSpec := { name := "policyBack", fn := fun _ => fun
  | [d1, d2, d3, d4, d5] => { results := [.lit (.bool false)], args := [d1, d2, d3, d4, d5] }
  | _ => none }
def PolicyBackWrongFalsely : Prop := policyBackRow.holds Try.pinned (OpenSpec.ofChange policyBackWrong)

/- THE SECOND FORM. 'bulk': how many values and letters a reading holds, each counted each time it is reached (what is shared counts as often as it is met; a slice's spare places count too). A statement '..UptoSaid' is the law's where the arguments, and the package variables that the reading takes, are together of bulk at most 1048576: NARROWER than '..Said'. Prove '..Said' where nothing that the law and all that it calls make is longer than what came in: it says more and counts as full. Else prove '..UptoSaid'. A law counts once. -/
mutual
def uptoBulk {H : Type} : DataW H → Nat
  | .lit (.string bytes) => bytes.length + 1
  | .lit _ => 1
  | .nil => 1
  | .ptr d => uptoBulk d + 1
  | .slice elems spare => uptoBulkAll elems + uptoBulkAll spare + 1
  | .agg parts => uptoBulkAll parts + 1
  | .iface _ d => uptoBulk d + 1
  | .map entries => uptoBulkEntries entries + 1
  | .held _ => 1
def uptoBulkAll {H : Type} : List (DataW H) → Nat
  | [] => 0
  | d :: r => uptoBulk d + uptoBulkAll r
def uptoBulkEntries {H : Type} : List (Lit × DataW H) → Nat
  | [] => 0
  | x :: r => uptoBulkEntry x + uptoBulkEntries r
def uptoBulkEntry {H : Type} : Lit × DataW H → Nat
  | (.string bytes, d) => bytes.length + uptoBulk d + 1
  | (_, d) => uptoBulk d + 1
 end
def uptoSmall : (H : Type) → List (DataW H) → Bool := fun _ ds => decide (uptoBulkAll ds ≤ 1048576)
def OpenSpec.upto (s : _root_.Go.ChangeSpec) : _root_.Go.OpenSpec := { _root_.Go.OpenSpec.ofChange s with cond := some uptoSmall }

/-- 'reevelaw02.SealAdds', WHERE WHAT IT READS IS OF BULK AT MOST 1048576: true; the input reads as it did. -/
def sealAddsUptoRow : OpenClaim := { program := "ytbiijcehgiibeaa", sum := "16bf97c03a2c779707ff42a95ce2db2a6d605e5e2ffb9974252a2bd56cc834be", func := "reeve/reevelaw02.SealAdds", spec := "sealAdds", apart := false, narrowed := true }
def SealAddsUptoSaid : Prop := sealAddsUptoRow.holds Try.pinned (OpenSpec.upto sealAddsSpec)

/-- 'reevelaw02.SealTells', WHERE WHAT IT READS IS OF BULK AT MOST 1048576: true; the input reads as it did. -/
def sealTellsUptoRow : OpenClaim := { program := "ytbiijcehgiibeaa", sum := "16bf97c03a2c779707ff42a95ce2db2a6d605e5e2ffb9974252a2bd56cc834be", func := "reeve/reevelaw02.SealTells", spec := "sealTells", apart := false, narrowed := true }
def SealTellsUptoSaid : Prop := sealTellsUptoRow.holds Try.pinned (OpenSpec.upto sealTellsSpec)

/-- 'reevelaw02.SealReads', WHERE WHAT IT READS IS OF BULK AT MOST 1048576: true; the input reads as it did. -/
def sealReadsUptoRow : OpenClaim := { program := "ytbiijcehgiibeaa", sum := "16bf97c03a2c779707ff42a95ce2db2a6d605e5e2ffb9974252a2bd56cc834be", func := "reeve/reevelaw02.SealReads", spec := "sealReads", apart := false, narrowed := true }
def SealReadsUptoSaid : Prop := sealReadsUptoRow.holds Try.pinned (OpenSpec.upto sealReadsSpec)

/-- 'reevelaw02.SealBack', WHERE WHAT IT READS IS OF BULK AT MOST 1048576: true; the input reads as it did. -/
def sealBackUptoRow : OpenClaim := { program := "ytbiijcehgiibeaa", sum := "16bf97c03a2c779707ff42a95ce2db2a6d605e5e2ffb9974252a2bd56cc834be", func := "reeve/reevelaw02.SealBack", spec := "sealBack", apart := false, narrowed := true }
def SealBackUptoSaid : Prop := sealBackUptoRow.holds Try.pinned (OpenSpec.upto sealBackSpec)

/-- 'reevelaw02.SealJoins', WHERE WHAT IT READS IS OF BULK AT MOST 1048576: true; the input reads as it did. -/
def sealJoinsUptoRow : OpenClaim := { program := "ytbiijcehgiibeaa", sum := "16bf97c03a2c779707ff42a95ce2db2a6d605e5e2ffb9974252a2bd56cc834be", func := "reeve/reevelaw02.SealJoins", spec := "sealJoins", apart := false, narrowed := true }
def SealJoinsUptoSaid : Prop := sealJoinsUptoRow.holds Try.pinned (OpenSpec.upto sealJoinsSpec)

/-- 'reevelaw04.PolicyUnlike', WHERE WHAT IT READS IS OF BULK AT MOST 1048576: true; the input reads as it did. -/
def policyUnlikeUptoRow : OpenClaim := { program := "ytbiijcehgiibeaa", sum := "16bf97c03a2c779707ff42a95ce2db2a6d605e5e2ffb9974252a2bd56cc834be", func := "reeve/reevelaw04.PolicyUnlike", spec := "policyUnlike", apart := false, narrowed := true }
def PolicyUnlikeUptoSaid : Prop := policyUnlikeUptoRow.holds Try.pinned (OpenSpec.upto policyUnlikeSpec)

/-- 'reevelaw02.SealParts', WHERE WHAT IT READS IS OF BULK AT MOST 1048576: true; the input reads as it did. -/
def sealPartsUptoRow : OpenClaim := { program := "ytbiijcehgiibeaa", sum := "16bf97c03a2c779707ff42a95ce2db2a6d605e5e2ffb9974252a2bd56cc834be", func := "reeve/reevelaw02.SealParts", spec := "sealParts", apart := false, narrowed := true }
def SealPartsUptoSaid : Prop := sealPartsUptoRow.holds Try.pinned (OpenSpec.upto sealPartsSpec)

/-- 'reevelaw04.PolicyCuts', WHERE WHAT IT READS IS OF BULK AT MOST 1048576: true; the input reads as it did. -/
def policyCutsUptoRow : OpenClaim := { program := "ytbiijcehgiibeaa", sum := "16bf97c03a2c779707ff42a95ce2db2a6d605e5e2ffb9974252a2bd56cc834be", func := "reeve/reevelaw04.PolicyCuts", spec := "policyCuts", apart := false, narrowed := true }
def PolicyCutsUptoSaid : Prop := policyCutsUptoRow.holds Try.pinned (OpenSpec.upto policyCutsSpec)

/-- 'reevelaw02.SealField', WHERE WHAT IT READS IS OF BULK AT MOST 1048576: true; the input reads as it did. -/
def sealFieldUptoRow : OpenClaim := { program := "ytbiijcehgiibeaa", sum := "16bf97c03a2c779707ff42a95ce2db2a6d605e5e2ffb9974252a2bd56cc834be", func := "reeve/reevelaw02.SealField", spec := "sealField", apart := false, narrowed := true }
def SealFieldUptoSaid : Prop := sealFieldUptoRow.holds Try.pinned (OpenSpec.upto sealFieldSpec)

/-- 'reevelaw02.SealOver', WHERE WHAT IT READS IS OF BULK AT MOST 1048576: true; the input reads as it did. -/
def sealOverUptoRow : OpenClaim := { program := "ytbiijcehgiibeaa", sum := "16bf97c03a2c779707ff42a95ce2db2a6d605e5e2ffb9974252a2bd56cc834be", func := "reeve/reevelaw02.SealOver", spec := "sealOver", apart := false, narrowed := true }
def SealOverUptoSaid : Prop := sealOverUptoRow.holds Try.pinned (OpenSpec.upto sealOverSpec)

/-- 'reevelaw02.SealReckons', WHERE WHAT IT READS IS OF BULK AT MOST 1048576: true; the input reads as it did. -/
def sealReckonsUptoRow : OpenClaim := { program := "ytbiijcehgiibeaa", sum := "16bf97c03a2c779707ff42a95ce2db2a6d605e5e2ffb9974252a2bd56cc834be", func := "reeve/reevelaw02.SealReckons", spec := "sealReckons", apart := false, narrowed := true }
def SealReckonsUptoSaid : Prop := sealReckonsUptoRow.holds Try.pinned (OpenSpec.upto sealReckonsSpec)

/-- 'reevelaw03.ChainGoes', WHERE WHAT IT READS IS OF BULK AT MOST 1048576: true; the input reads as it did. -/
def chainGoesUptoRow : OpenClaim := { program := "ytbiijcehgiibeaa", sum := "16bf97c03a2c779707ff42a95ce2db2a6d605e5e2ffb9974252a2bd56cc834be", func := "reeve/reevelaw03.ChainGoes", spec := "chainGoes", apart := false, narrowed := true }
def ChainGoesUptoSaid : Prop := chainGoesUptoRow.holds Try.pinned (OpenSpec.upto chainGoesSpec)

/-- 'reevelaw03.ChainWhole', WHERE WHAT IT READS IS OF BULK AT MOST 1048576: true; the input reads as it did. -/
def chainWholeUptoRow : OpenClaim := { program := "ytbiijcehgiibeaa", sum := "16bf97c03a2c779707ff42a95ce2db2a6d605e5e2ffb9974252a2bd56cc834be", func := "reeve/reevelaw03.ChainWhole", spec := "chainWhole", apart := false, narrowed := true }
def ChainWholeUptoSaid : Prop := chainWholeUptoRow.holds Try.pinned (OpenSpec.upto chainWholeSpec)

/-- 'reevelaw03.ChainChecks', WHERE WHAT IT READS IS OF BULK AT MOST 1048576: true; the input reads as it did. -/
def chainChecksUptoRow : OpenClaim := { program := "ytbiijcehgiibeaa", sum := "16bf97c03a2c779707ff42a95ce2db2a6d605e5e2ffb9974252a2bd56cc834be", func := "reeve/reevelaw03.ChainChecks", spec := "chainChecks", apart := false, narrowed := true }
def ChainChecksUptoSaid : Prop := chainChecksUptoRow.holds Try.pinned (OpenSpec.upto chainChecksSpec)

/-- 'reevelaw03.ChainTells', WHERE WHAT IT READS IS OF BULK AT MOST 1048576: true; the input reads as it did. -/
def chainTellsUptoRow : OpenClaim := { program := "ytbiijcehgiibeaa", sum := "16bf97c03a2c779707ff42a95ce2db2a6d605e5e2ffb9974252a2bd56cc834be", func := "reeve/reevelaw03.ChainTells", spec := "chainTells", apart := false, narrowed := true }
def ChainTellsUptoSaid : Prop := chainTellsUptoRow.holds Try.pinned (OpenSpec.upto chainTellsSpec)

/-- 'reevelaw03.ChainStarts', WHERE WHAT IT READS IS OF BULK AT MOST 1048576: true; the input reads as it did. -/
def chainStartsUptoRow : OpenClaim := { program := "ytbiijcehgiibeaa", sum := "16bf97c03a2c779707ff42a95ce2db2a6d605e5e2ffb9974252a2bd56cc834be", func := "reeve/reevelaw03.ChainStarts", spec := "chainStarts", apart := false, narrowed := true }
def ChainStartsUptoSaid : Prop := chainStartsUptoRow.holds Try.pinned (OpenSpec.upto chainStartsSpec)

/-- 'reevelaw03.ChainReads', WHERE WHAT IT READS IS OF BULK AT MOST 1048576: true; the input reads as it did. -/
def chainReadsUptoRow : OpenClaim := { program := "ytbiijcehgiibeaa", sum := "16bf97c03a2c779707ff42a95ce2db2a6d605e5e2ffb9974252a2bd56cc834be", func := "reeve/reevelaw03.ChainReads", spec := "chainReads", apart := false, narrowed := true }
def ChainReadsUptoSaid : Prop := chainReadsUptoRow.holds Try.pinned (OpenSpec.upto chainReadsSpec)

/-- 'reevelaw03.ChainBack', WHERE WHAT IT READS IS OF BULK AT MOST 1048576: true; the input reads as it did. -/
def chainBackUptoRow : OpenClaim := { program := "ytbiijcehgiibeaa", sum := "16bf97c03a2c779707ff42a95ce2db2a6d605e5e2ffb9974252a2bd56cc834be", func := "reeve/reevelaw03.ChainBack", spec := "chainBack", apart := false, narrowed := true }
def ChainBackUptoSaid : Prop := chainBackUptoRow.holds Try.pinned (OpenSpec.upto chainBackSpec)

/-- 'reevelaw04.PolicyHeads', WHERE WHAT IT READS IS OF BULK AT MOST 1048576: true; the input reads as it did. -/
def policyHeadsUptoRow : OpenClaim := { program := "ytbiijcehgiibeaa", sum := "16bf97c03a2c779707ff42a95ce2db2a6d605e5e2ffb9974252a2bd56cc834be", func := "reeve/reevelaw04.PolicyHeads", spec := "policyHeads", apart := false, narrowed := true }
def PolicyHeadsUptoSaid : Prop := policyHeadsUptoRow.holds Try.pinned (OpenSpec.upto policyHeadsSpec)

/-- 'reevelaw04.PolicyReads', WHERE WHAT IT READS IS OF BULK AT MOST 1048576: true; the input reads as it did. -/
def policyReadsUptoRow : OpenClaim := { program := "ytbiijcehgiibeaa", sum := "16bf97c03a2c779707ff42a95ce2db2a6d605e5e2ffb9974252a2bd56cc834be", func := "reeve/reevelaw04.PolicyReads", spec := "policyReads", apart := false, narrowed := true }
def PolicyReadsUptoSaid : Prop := policyReadsUptoRow.holds Try.pinned (OpenSpec.upto policyReadsSpec)

/-- 'reevelaw04.PolicyBack', WHERE WHAT IT READS IS OF BULK AT MOST 1048576: true; the input reads as it did. -/
def policyBackUptoRow : OpenClaim := { program := "ytbiijcehgiibeaa", sum := "16bf97c03a2c779707ff42a95ce2db2a6d605e5e2ffb9974252a2bd56cc834be", func := "reeve/reevelaw04.PolicyBack", spec := "policyBack", apart := false, narrowed := true }
def PolicyBackUptoSaid : Prop := policyBackUptoRow.holds Try.pinned (OpenSpec.upto policyBackSpec)

end Rows
end Go.Proofs.Ytbiijcehgiibeaa
