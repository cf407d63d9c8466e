/-
  No cell of these rows narrows 'for every input' (looked for: loops, veiled, ifaces, maps, wideKeys, modest, calm, conditions, laid).
  DERIVED. THE GIVEN ROWS OF THIS SEAT. 11 by the template 'for every input the law returns true; each argument reads behind the call as it read before'; 0 by the template 'total and deterministic' (their statements: YtjhbcfajgilllaaTotals.lean).
  GIVEN WITH THE SEED: the statements are not yours to turn. If you find one false, say at which input.
  Laid BY PROGRAM, IN A SANDBOX (cutbox-rows.mjs): the forced cells as the released guide's own fill.sh prints them over the translation 71b9a19e6f16c74d… (all of the seat's roots in one cut). By AI agents, Wed Nov 11 2026. No macro, syntax, notation, axiom, sorry.
-/
import Derived.Test.YtjhbcfajgilllaaChecked
import GoSem.Claim
import GoSem.ClaimJoined
import GoSem.ClaimMapViews
import Derived.JoinedTies
import Derived.KernelRfl
namespace Go.Proofs.Ytjhbcfajgilllaa
/- THE CELL 'sum', in the pinned program and in every row, IS THE sha256 OF THE DUMP (.gsa) THAT YtjhbcfajgilllaaProg.lean LOADS. Nothing in Lean hashes anything: it is a label: what it is worth is what the hold of that sum in a sandbox is worth. -/
noncomputable def Try.pinned : Pinned := { name := "ytjhbcfajgilllaa", sum := "71b9a19e6f16c74de24b03a5a4c3113b5dac7ad92186b86589c763289f3754ab", checked := Try.checked }
namespace Rows
def none {H : Type} : Left H := { results := [], args := [] }

/-- 'laws.FnExactCtlPack': WHATEVER THE INPUT: true; the input reads as it did. -/
def fnExactCtlPackSpec : ChangeSpec := { name := "fnExactCtlPack", fn := fun _ => fun
  | [d] => { results := [.lit (.bool true)], args := [d] }
  | _ => none }
def fnExactCtlPackRow : OpenClaim := { program := "ytjhbcfajgilllaa", sum := "71b9a19e6f16c74de24b03a5a4c3113b5dac7ad92186b86589c763289f3754ab", func := "loop.example/g00709/laws.FnExactCtlPack", spec := "fnExactCtlPack", apart := false }
def FnExactCtlPackSaid : Prop := fnExactCtlPackRow.holds Try.pinned (OpenSpec.ofChange fnExactCtlPackSpec)

/-- ITS FALSE NEIGHBOUR: 'it returns false'. Refute it at one input. -/
def fnExactCtlPackWrong : ChangeSpec := { name := "fnExactCtlPack", fn := fun _ => fun
  | [d] => { results := [.lit (.bool false)], args := [d] }
  | _ => none }
def FnExactCtlPackWrongFalsely : Prop := fnExactCtlPackRow.holds Try.pinned (OpenSpec.ofChange fnExactCtlPackWrong)

/-- 'laws.FnExactCtlRead': WHATEVER THE INPUT: true; the input reads as it did. -/
def fnExactCtlReadSpec : ChangeSpec := { name := "fnExactCtlRead", fn := fun _ => fun
  | [d] => { results := [.lit (.bool true)], args := [d] }
  | _ => none }
def fnExactCtlReadRow : OpenClaim := { program := "ytjhbcfajgilllaa", sum := "71b9a19e6f16c74de24b03a5a4c3113b5dac7ad92186b86589c763289f3754ab", func := "loop.example/g00709/laws.FnExactCtlRead", spec := "fnExactCtlRead", apart := false }
def FnExactCtlReadSaid : Prop := fnExactCtlReadRow.holds Try.pinned (OpenSpec.ofChange fnExactCtlReadSpec)

/-- ITS FALSE NEIGHBOUR: 'it returns false'. Refute it at one input. -/
def fnExactCtlReadWrong : ChangeSpec := { name := "fnExactCtlRead", fn := fun _ => fun
  | [d] => { results := [.lit (.bool false)], args := [d] }
  | _ => none }
def FnExactCtlReadWrongFalsely : Prop := fnExactCtlReadRow.holds Try.pinned (OpenSpec.ofChange fnExactCtlReadWrong)

/-- 'laws.FnExactSpread': WHATEVER THE INPUT: true; the input reads as it did. -/
def fnExactSpreadSpec : ChangeSpec := { name := "fnExactSpread", fn := fun _ => fun
  | [d1, d2, d3] => { results := [.lit (.bool true)], args := [d1, d2, d3] }
  | _ => none }
def fnExactSpreadRow : OpenClaim := { program := "ytjhbcfajgilllaa", sum := "71b9a19e6f16c74de24b03a5a4c3113b5dac7ad92186b86589c763289f3754ab", func := "loop.example/g00709/laws.FnExactSpread", spec := "fnExactSpread", apart := false }
def FnExactSpreadSaid : Prop := fnExactSpreadRow.holds Try.pinned (OpenSpec.ofChange fnExactSpreadSpec)

/-- ITS FALSE NEIGHBOUR: 'it returns false'. Refute it at one input. -/
def fnExactSpreadWrong : ChangeSpec := { name := "fnExactSpread", fn := fun _ => fun
  | [d1, d2, d3] => { results := [.lit (.bool false)], args := [d1, d2, d3] }
  | _ => none }
def FnExactSpreadWrongFalsely : Prop := fnExactSpreadRow.holds Try.pinned (OpenSpec.ofChange fnExactSpreadWrong)

/-- 'laws.FnExactMemStore': WHATEVER THE INPUT: true; the input reads as it did. -/
def fnExactMemStoreSpec : ChangeSpec := { name := "fnExactMemStore", fn := fun _ => fun
  | [d1, d2, d3] => { results := [.lit (.bool true)], args := [d1, d2, d3] }
  | _ => none }
def fnExactMemStoreRow : OpenClaim := { program := "ytjhbcfajgilllaa", sum := "71b9a19e6f16c74de24b03a5a4c3113b5dac7ad92186b86589c763289f3754ab", func := "loop.example/g00709/laws.FnExactMemStore", spec := "fnExactMemStore", unfollowed := true, recurses := true, apart := false }
def FnExactMemStoreSaid : Prop := fnExactMemStoreRow.holds Try.pinned (OpenSpec.ofChange fnExactMemStoreSpec)

/-- ITS FALSE NEIGHBOUR: 'it returns false'. Refute it at one input. -/
def fnExactMemStoreWrong : ChangeSpec := { name := "fnExactMemStore", fn := fun _ => fun
  | [d1, d2, d3] => { results := [.lit (.bool false)], args := [d1, d2, d3] }
  | _ => none }
def FnExactMemStoreWrongFalsely : Prop := fnExactMemStoreRow.holds Try.pinned (OpenSpec.ofChange fnExactMemStoreWrong)

/-- 'laws.FnExactBlockAt': WHATEVER THE INPUT: true; the input reads as it did. -/
def fnExactBlockAtSpec : ChangeSpec := { name := "fnExactBlockAt", fn := fun _ => fun
  | [d1, d2] => { results := [.lit (.bool true)], args := [d1, d2] }
  | _ => none }
def fnExactBlockAtRow : OpenClaim := { program := "ytjhbcfajgilllaa", sum := "71b9a19e6f16c74de24b03a5a4c3113b5dac7ad92186b86589c763289f3754ab", func := "loop.example/g00709/laws.FnExactBlockAt", spec := "fnExactBlockAt", apart := false }
def FnExactBlockAtSaid : Prop := fnExactBlockAtRow.holds Try.pinned (OpenSpec.ofChange fnExactBlockAtSpec)

/-- ITS FALSE NEIGHBOUR: 'it returns false'. Refute it at one input. -/
def fnExactBlockAtWrong : ChangeSpec := { name := "fnExactBlockAt", fn := fun _ => fun
  | [d1, d2] => { results := [.lit (.bool false)], args := [d1, d2] }
  | _ => none }
def FnExactBlockAtWrongFalsely : Prop := fnExactBlockAtRow.holds Try.pinned (OpenSpec.ofChange fnExactBlockAtWrong)

/-- 'laws.FnExactMemGrow': WHATEVER THE INPUT: true; the input reads as it did. -/
def fnExactMemGrowSpec : ChangeSpec := { name := "fnExactMemGrow", fn := fun _ => fun
  | [d1, d2] => { results := [.lit (.bool true)], args := [d1, d2] }
  | _ => none }
def fnExactMemGrowRow : OpenClaim := { program := "ytjhbcfajgilllaa", sum := "71b9a19e6f16c74de24b03a5a4c3113b5dac7ad92186b86589c763289f3754ab", func := "loop.example/g00709/laws.FnExactMemGrow", spec := "fnExactMemGrow", apart := false }
def FnExactMemGrowSaid : Prop := fnExactMemGrowRow.holds Try.pinned (OpenSpec.ofChange fnExactMemGrowSpec)

/-- ITS FALSE NEIGHBOUR: 'it returns false'. Refute it at one input. -/
def fnExactMemGrowWrong : ChangeSpec := { name := "fnExactMemGrow", fn := fun _ => fun
  | [d1, d2] => { results := [.lit (.bool false)], args := [d1, d2] }
  | _ => none }
def FnExactMemGrowWrongFalsely : Prop := fnExactMemGrowRow.holds Try.pinned (OpenSpec.ofChange fnExactMemGrowWrong)

/-- 'laws.FnExactMemAdd': WHATEVER THE INPUT: true; the input reads as it did. -/
def fnExactMemAddSpec : ChangeSpec := { name := "fnExactMemAdd", fn := fun _ => fun
  | [d1, d2, d3] => { results := [.lit (.bool true)], args := [d1, d2, d3] }
  | _ => none }
def fnExactMemAddRow : OpenClaim := { program := "ytjhbcfajgilllaa", sum := "71b9a19e6f16c74de24b03a5a4c3113b5dac7ad92186b86589c763289f3754ab", func := "loop.example/g00709/laws.FnExactMemAdd", spec := "fnExactMemAdd", unfollowed := true, recurses := true, apart := false }
def FnExactMemAddSaid : Prop := fnExactMemAddRow.holds Try.pinned (OpenSpec.ofChange fnExactMemAddSpec)

/-- ITS FALSE NEIGHBOUR: 'it returns false'. Refute it at one input. -/
def fnExactMemAddWrong : ChangeSpec := { name := "fnExactMemAdd", fn := fun _ => fun
  | [d1, d2, d3] => { results := [.lit (.bool false)], args := [d1, d2, d3] }
  | _ => none }
def FnExactMemAddWrongFalsely : Prop := fnExactMemAddRow.holds Try.pinned (OpenSpec.ofChange fnExactMemAddWrong)

/-- 'laws.FnExactTakenWords': WHATEVER THE INPUT: true; the input reads as it did. -/
def fnExactTakenWordsSpec : ChangeSpec := { name := "fnExactTakenWords", fn := fun _ => fun
  | [d] => { results := [.lit (.bool true)], args := [d] }
  | _ => none }
def fnExactTakenWordsRow : OpenClaim := { program := "ytjhbcfajgilllaa", sum := "71b9a19e6f16c74de24b03a5a4c3113b5dac7ad92186b86589c763289f3754ab", func := "loop.example/g00709/laws.FnExactTakenWords", spec := "fnExactTakenWords", apart := false }
def FnExactTakenWordsSaid : Prop := fnExactTakenWordsRow.holds Try.pinned (OpenSpec.ofChange fnExactTakenWordsSpec)

/-- ITS FALSE NEIGHBOUR: 'it returns false'. Refute it at one input. -/
def fnExactTakenWordsWrong : ChangeSpec := { name := "fnExactTakenWords", fn := fun _ => fun
  | [d] => { results := [.lit (.bool false)], args := [d] }
  | _ => none }
def FnExactTakenWordsWrongFalsely : Prop := fnExactTakenWordsRow.holds Try.pinned (OpenSpec.ofChange fnExactTakenWordsWrong)

/-- 'laws.FnExactMemCas': WHATEVER THE INPUT: true; the input reads as it did. -/
def fnExactMemCasSpec : ChangeSpec := { name := "fnExactMemCas", fn := fun _ => fun
  | [d1, d2, d3, d4] => { results := [.lit (.bool true)], args := [d1, d2, d3, d4] }
  | _ => none }
def fnExactMemCasRow : OpenClaim := { program := "ytjhbcfajgilllaa", sum := "71b9a19e6f16c74de24b03a5a4c3113b5dac7ad92186b86589c763289f3754ab", func := "loop.example/g00709/laws.FnExactMemCas", spec := "fnExactMemCas", unfollowed := true, recurses := true, apart := false }
def FnExactMemCasSaid : Prop := fnExactMemCasRow.holds Try.pinned (OpenSpec.ofChange fnExactMemCasSpec)

/-- ITS FALSE NEIGHBOUR: 'it returns false'. Refute it at one input. -/
def fnExactMemCasWrong : ChangeSpec := { name := "fnExactMemCas", fn := fun _ => fun
  | [d1, d2, d3, d4] => { results := [.lit (.bool false)], args := [d1, d2, d3, d4] }
  | _ => none }
def FnExactMemCasWrongFalsely : Prop := fnExactMemCasRow.holds Try.pinned (OpenSpec.ofChange fnExactMemCasWrong)

/-- 'laws.FnExactMemAnd': WHATEVER THE INPUT: true; the input reads as it did. -/
def fnExactMemAndSpec : ChangeSpec := { name := "fnExactMemAnd", fn := fun _ => fun
  | [d1, d2, d3] => { results := [.lit (.bool true)], args := [d1, d2, d3] }
  | _ => none }
def fnExactMemAndRow : OpenClaim := { program := "ytjhbcfajgilllaa", sum := "71b9a19e6f16c74de24b03a5a4c3113b5dac7ad92186b86589c763289f3754ab", func := "loop.example/g00709/laws.FnExactMemAnd", spec := "fnExactMemAnd", unfollowed := true, recurses := true, apart := false }
def FnExactMemAndSaid : Prop := fnExactMemAndRow.holds Try.pinned (OpenSpec.ofChange fnExactMemAndSpec)

/-- ITS FALSE NEIGHBOUR: 'it returns false'. Refute it at one input. -/
def fnExactMemAndWrong : ChangeSpec := { name := "fnExactMemAnd", fn := fun _ => fun
  | [d1, d2, d3] => { results := [.lit (.bool false)], args := [d1, d2, d3] }
  | _ => none }
def FnExactMemAndWrongFalsely : Prop := fnExactMemAndRow.holds Try.pinned (OpenSpec.ofChange fnExactMemAndWrong)

/-- 'laws.FnExactMemOr': WHATEVER THE INPUT: true; the input reads as it did. -/
def fnExactMemOrSpec : ChangeSpec := { name := "fnExactMemOr", fn := fun _ => fun
  | [d1, d2, d3] => { results := [.lit (.bool true)], args := [d1, d2, d3] }
  | _ => none }
def fnExactMemOrRow : OpenClaim := { program := "ytjhbcfajgilllaa", sum := "71b9a19e6f16c74de24b03a5a4c3113b5dac7ad92186b86589c763289f3754ab", func := "loop.example/g00709/laws.FnExactMemOr", spec := "fnExactMemOr", unfollowed := true, recurses := true, apart := false }
def FnExactMemOrSaid : Prop := fnExactMemOrRow.holds Try.pinned (OpenSpec.ofChange fnExactMemOrSpec)

/-- ITS FALSE NEIGHBOUR: 'it returns false'. Refute it at one input. -/
def fnExactMemOrWrong : ChangeSpec := { name := "fnExactMemOr", fn := fun _ => fun
  | [d1, d2, d3] => { results := [.lit (.bool false)], args := [d1, d2, d3] }
  | _ => none }
def FnExactMemOrWrongFalsely : Prop := fnExactMemOrRow.holds Try.pinned (OpenSpec.ofChange fnExactMemOrWrong)

/- THE SECOND FORM. 'bulk': how many values and letters a reading holds, each counted each time it is reached (what is shared counts as often as it is met; a slice's spare places count too). A statement '..UptoSaid' is the law's where the arguments, and the package variables that the reading takes, are together of bulk at most 1048576: NARROWER than '..Said'. Prove '..Said' where nothing that the law and all that it calls make is longer than what came in: it says more and counts as full. Else prove '..UptoSaid'. A law counts once. -/
mutual
def uptoBulk {H : Type} : DataW H → Nat
  | .lit (.string bytes) => bytes.length + 1
  | .lit _ => 1
  | .nil => 1
  | .ptr d => uptoBulk d + 1
  | .slice elems spare => uptoBulkAll elems + uptoBulkAll spare + 1
  | .agg parts => uptoBulkAll parts + 1
  | .iface _ d => uptoBulk d + 1
  | .map entries => uptoBulkEntries entries + 1
  | .held _ => 1
def uptoBulkAll {H : Type} : List (DataW H) → Nat
  | [] => 0
  | d :: r => uptoBulk d + uptoBulkAll r
def uptoBulkEntries {H : Type} : List (Lit × DataW H) → Nat
  | [] => 0
  | x :: r => uptoBulkEntry x + uptoBulkEntries r
def uptoBulkEntry {H : Type} : Lit × DataW H → Nat
  | (.string bytes, d) => bytes.length + uptoBulk d + 1
  | (_, d) => uptoBulk d + 1
 end
def uptoSmall : (H : Type) → List (DataW H) → Bool := fun _ ds => decide (uptoBulkAll ds ≤ 1048576)
def OpenSpec.upto (s : _root_.Go.ChangeSpec) : _root_.Go.OpenSpec := { _root_.Go.OpenSpec.ofChange s with cond := some uptoSmall }

/-- 'laws.FnExactCtlPack', WHERE WHAT IT READS IS OF BULK AT MOST 1048576: true; the input reads as it did. -/
def fnExactCtlPackUptoRow : OpenClaim := { program := "ytjhbcfajgilllaa", sum := "71b9a19e6f16c74de24b03a5a4c3113b5dac7ad92186b86589c763289f3754ab", func := "loop.example/g00709/laws.FnExactCtlPack", spec := "fnExactCtlPack", apart := false, narrowed := true }
def FnExactCtlPackUptoSaid : Prop := fnExactCtlPackUptoRow.holds Try.pinned (OpenSpec.upto fnExactCtlPackSpec)

/-- 'laws.FnExactCtlRead', WHERE WHAT IT READS IS OF BULK AT MOST 1048576: true; the input reads as it did. -/
def fnExactCtlReadUptoRow : OpenClaim := { program := "ytjhbcfajgilllaa", sum := "71b9a19e6f16c74de24b03a5a4c3113b5dac7ad92186b86589c763289f3754ab", func := "loop.example/g00709/laws.FnExactCtlRead", spec := "fnExactCtlRead", apart := false, narrowed := true }
def FnExactCtlReadUptoSaid : Prop := fnExactCtlReadUptoRow.holds Try.pinned (OpenSpec.upto fnExactCtlReadSpec)

/-- 'laws.FnExactSpread', WHERE WHAT IT READS IS OF BULK AT MOST 1048576: true; the input reads as it did. -/
def fnExactSpreadUptoRow : OpenClaim := { program := "ytjhbcfajgilllaa", sum := "71b9a19e6f16c74de24b03a5a4c3113b5dac7ad92186b86589c763289f3754ab", func := "loop.example/g00709/laws.FnExactSpread", spec := "fnExactSpread", apart := false, narrowed := true }
def FnExactSpreadUptoSaid : Prop := fnExactSpreadUptoRow.holds Try.pinned (OpenSpec.upto fnExactSpreadSpec)

/-- 'laws.FnExactMemStore', WHERE WHAT IT READS IS OF BULK AT MOST 1048576: true; the input reads as it did. -/
def fnExactMemStoreUptoRow : OpenClaim := { program := "ytjhbcfajgilllaa", sum := "71b9a19e6f16c74de24b03a5a4c3113b5dac7ad92186b86589c763289f3754ab", func := "loop.example/g00709/laws.FnExactMemStore", spec := "fnExactMemStore", unfollowed := true, recurses := true, apart := false, narrowed := true }
def FnExactMemStoreUptoSaid : Prop := fnExactMemStoreUptoRow.holds Try.pinned (OpenSpec.upto fnExactMemStoreSpec)

/-- 'laws.FnExactBlockAt', WHERE WHAT IT READS IS OF BULK AT MOST 1048576: true; the input reads as it did. -/
def fnExactBlockAtUptoRow : OpenClaim := { program := "ytjhbcfajgilllaa", sum := "71b9a19e6f16c74de24b03a5a4c3113b5dac7ad92186b86589c763289f3754ab", func := "loop.example/g00709/laws.FnExactBlockAt", spec := "fnExactBlockAt", apart := false, narrowed := true }
def FnExactBlockAtUptoSaid : Prop := fnExactBlockAtUptoRow.holds Try.pinned (OpenSpec.upto fnExactBlockAtSpec)

/-- 'laws.FnExactMemGrow', WHERE WHAT IT READS IS OF BULK AT MOST 1048576: true; the input reads as it did. -/
def fnExactMemGrowUptoRow : OpenClaim := { program := "ytjhbcfajgilllaa", sum := "71b9a19e6f16c74de24b03a5a4c3113b5dac7ad92186b86589c763289f3754ab", func := "loop.example/g00709/laws.FnExactMemGrow", spec := "fnExactMemGrow", apart := false, narrowed := true }
def FnExactMemGrowUptoSaid : Prop := fnExactMemGrowUptoRow.holds Try.pinned (OpenSpec.upto fnExactMemGrowSpec)

/-- 'laws.FnExactMemAdd', WHERE WHAT IT READS IS OF BULK AT MOST 1048576: true; the input reads as it did. -/
def fnExactMemAddUptoRow : OpenClaim := { program := "ytjhbcfajgilllaa", sum := "71b9a19e6f16c74de24b03a5a4c3113b5dac7ad92186b86589c763289f3754ab", func := "loop.example/g00709/laws.FnExactMemAdd", spec := "fnExactMemAdd", unfollowed := true, recurses := true, apart := false, narrowed := true }
def FnExactMemAddUptoSaid : Prop := fnExactMemAddUptoRow.holds Try.pinned (OpenSpec.upto fnExactMemAddSpec)

/-- 'laws.FnExactTakenWords', WHERE WHAT IT READS IS OF BULK AT MOST 1048576: true; the input reads as it did. -/
def fnExactTakenWordsUptoRow : OpenClaim := { program := "ytjhbcfajgilllaa", sum := "71b9a19e6f16c74de24b03a5a4c3113b5dac7ad92186b86589c763289f3754ab", func := "loop.example/g00709/laws.FnExactTakenWords", spec := "fnExactTakenWords", apart := false, narrowed := true }
def FnExactTakenWordsUptoSaid : Prop := fnExactTakenWordsUptoRow.holds Try.pinned (OpenSpec.upto fnExactTakenWordsSpec)

/-- 'laws.FnExactMemCas', WHERE WHAT IT READS IS OF BULK AT MOST 1048576: true; the input reads as it did. -/
def fnExactMemCasUptoRow : OpenClaim := { program := "ytjhbcfajgilllaa", sum := "71b9a19e6f16c74de24b03a5a4c3113b5dac7ad92186b86589c763289f3754ab", func := "loop.example/g00709/laws.FnExactMemCas", spec := "fnExactMemCas", unfollowed := true, recurses := true, apart := false, narrowed := true }
def FnExactMemCasUptoSaid : Prop := fnExactMemCasUptoRow.holds Try.pinned (OpenSpec.upto fnExactMemCasSpec)

/-- 'laws.FnExactMemAnd', WHERE WHAT IT READS IS OF BULK AT MOST 1048576: true; the input reads as it did. -/
def fnExactMemAndUptoRow : OpenClaim := { program := "ytjhbcfajgilllaa", sum := "71b9a19e6f16c74de24b03a5a4c3113b5dac7ad92186b86589c763289f3754ab", func := "loop.example/g00709/laws.FnExactMemAnd", spec := "fnExactMemAnd", unfollowed := true, recurses := true, apart := false, narrowed := true }
def FnExactMemAndUptoSaid : Prop := fnExactMemAndUptoRow.holds Try.pinned (OpenSpec.upto fnExactMemAndSpec)

/-- 'laws.FnExactMemOr', WHERE WHAT IT READS IS OF BULK AT MOST 1048576: true; the input reads as it did. -/
def fnExactMemOrUptoRow : OpenClaim := { program := "ytjhbcfajgilllaa", sum := "71b9a19e6f16c74de24b03a5a4c3113b5dac7ad92186b86589c763289f3754ab", func := "loop.example/g00709/laws.FnExactMemOr", spec := "fnExactMemOr", unfollowed := true, recurses := true, apart := false, narrowed := true }
def FnExactMemOrUptoSaid : Prop := fnExactMemOrUptoRow.holds Try.pinned (OpenSpec.upto fnExactMemOrSpec)

end Rows
end Go.Proofs.Ytjhbcfajgilllaa
