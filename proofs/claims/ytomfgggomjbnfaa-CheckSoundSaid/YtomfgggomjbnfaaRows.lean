/-
  No cell of these rows narrows 'for every input' (looked for: loops, veiled, ifaces, maps, wideKeys, modest, calm, conditions, laid).
  DERIVED. THE GIVEN ROWS OF THIS SEAT. 10 by the template 'for every input the law returns true; each argument reads behind the call as it read before'; 0 by the template 'total and deterministic' (their statements: YtomfgggomjbnfaaTotals.lean).
  GIVEN WITH THE SEED: the statements are not yours to turn. If you find one false, say at which input.
  Laid BY PROGRAM, IN A SANDBOX (cutbox-rows.mjs): the forced cells as the released guide's own fill.sh prints them over the translation 6156572a604ecd12… (all of the seat's roots in one cut). By AI agents, Wed Nov 11 2026. No macro, syntax, notation, axiom, sorry.
-/
import Derived.Test.YtomfgggomjbnfaaChecked
import GoSem.Claim
import GoSem.ClaimJoined
import GoSem.ClaimMapViews
import Derived.JoinedTies
import Derived.KernelRfl
namespace Go.Proofs.Ytomfgggomjbnfaa
/- THE CELL 'sum', in the pinned program and in every row, IS THE sha256 OF THE DUMP (.gsa) THAT YtomfgggomjbnfaaProg.lean LOADS. Nothing in Lean hashes anything: it is a label: what it is worth is what the hold of that sum in a sandbox is worth. -/
noncomputable def Try.pinned : Pinned := { name := "ytomfgggomjbnfaa", sum := "6156572a604ecd12f40072bbb840099598d8c7bb76d609b123c0df1127db5249", checked := Try.checked }
namespace Rows
def none {H : Type} : Left H := { results := [], args := [] }

/-- 'paternosterlaw13.CheckSound': WHATEVER THE INPUT: true; the input reads as it did. -/
def checkSoundSpec : ChangeSpec := { name := "checkSound", fn := fun _ => fun
  | [d1, d2] => { results := [.lit (.bool true)], args := [d1, d2] }
  | _ => none }
def checkSoundRow : OpenClaim := { program := "ytomfgggomjbnfaa", sum := "6156572a604ecd12f40072bbb840099598d8c7bb76d609b123c0df1127db5249", func := "paternoster/paternosterlaw13.CheckSound", spec := "checkSound", unfollowed := true, recurses := true, plainKeys := false, apart := false }
def CheckSoundSaid : Prop := checkSoundRow.holds Try.pinned (OpenSpec.ofChange checkSoundSpec)

/-- ITS FALSE NEIGHBOUR: 'it returns false'. Refute it at one input. -/
def checkSoundWrong : ChangeSpec := { name := "checkSound", fn := fun _ => fun
  | [d1, d2] => { results := [.lit (.bool false)], args := [d1, d2] }
  | _ => none }
def CheckSoundWrongFalsely : Prop := checkSoundRow.holds Try.pinned (OpenSpec.ofChange checkSoundWrong)

/-- 'paternosterlaw14.RuleOldest': WHATEVER THE INPUT: true; the input reads as it did. -/
def ruleOldestSpec : ChangeSpec := { name := "ruleOldest", fn := fun _ => fun
  | [d1, d2, d3] => { results := [.lit (.bool true)], args := [d1, d2, d3] }
  | _ => none }
def ruleOldestRow : OpenClaim := { program := "ytomfgggomjbnfaa", sum := "6156572a604ecd12f40072bbb840099598d8c7bb76d609b123c0df1127db5249", func := "paternoster/paternosterlaw14.RuleOldest", spec := "ruleOldest", unfollowed := true, recurses := true, plainKeys := false, apart := false }
def RuleOldestSaid : Prop := ruleOldestRow.holds Try.pinned (OpenSpec.ofChange ruleOldestSpec)

/-- ITS FALSE NEIGHBOUR: 'it returns false'. Refute it at one input. -/
def ruleOldestWrong : ChangeSpec := { name := "ruleOldest", fn := fun _ => fun
  | [d1, d2, d3] => { results := [.lit (.bool false)], args := [d1, d2, d3] }
  | _ => none }
def RuleOldestWrongFalsely : Prop := ruleOldestRow.holds Try.pinned (OpenSpec.ofChange ruleOldestWrong)

/-- 'paternosterlaw12.SearchTold': WHATEVER THE INPUT: true; the input reads as it did. -/
def searchToldSpec : ChangeSpec := { name := "searchTold", fn := fun _ => fun
  | [d1, d2] => { results := [.lit (.bool true)], args := [d1, d2] }
  | _ => none }
def searchToldRow : OpenClaim := { program := "ytomfgggomjbnfaa", sum := "6156572a604ecd12f40072bbb840099598d8c7bb76d609b123c0df1127db5249", func := "paternoster/paternosterlaw12.SearchTold", spec := "searchTold", unfollowed := true, recurses := true, plainKeys := false, apart := false }
def SearchToldSaid : Prop := searchToldRow.holds Try.pinned (OpenSpec.ofChange searchToldSpec)

/-- ITS FALSE NEIGHBOUR: 'it returns false'. Refute it at one input. -/
def searchToldWrong : ChangeSpec := { name := "searchTold", fn := fun _ => fun
  | [d1, d2] => { results := [.lit (.bool false)], args := [d1, d2] }
  | _ => none }
def SearchToldWrongFalsely : Prop := searchToldRow.holds Try.pinned (OpenSpec.ofChange searchToldWrong)

/-- 'paternosterlaw12.SearchBest': WHATEVER THE INPUT: true; the input reads as it did. -/
def searchBestSpec : ChangeSpec := { name := "searchBest", fn := fun _ => fun
  | [d1, d2] => { results := [.lit (.bool true)], args := [d1, d2] }
  | _ => none }
def searchBestRow : OpenClaim := { program := "ytomfgggomjbnfaa", sum := "6156572a604ecd12f40072bbb840099598d8c7bb76d609b123c0df1127db5249", func := "paternoster/paternosterlaw12.SearchBest", spec := "searchBest", unfollowed := true, recurses := true, plainKeys := false, apart := false }
def SearchBestSaid : Prop := searchBestRow.holds Try.pinned (OpenSpec.ofChange searchBestSpec)

/-- ITS FALSE NEIGHBOUR: 'it returns false'. Refute it at one input. -/
def searchBestWrong : ChangeSpec := { name := "searchBest", fn := fun _ => fun
  | [d1, d2] => { results := [.lit (.bool false)], args := [d1, d2] }
  | _ => none }
def SearchBestWrongFalsely : Prop := searchBestRow.holds Try.pinned (OpenSpec.ofChange searchBestWrong)

/-- 'paternosterlaw12.SearchFirst': WHATEVER THE INPUT: true; the input reads as it did. -/
def searchFirstSpec : ChangeSpec := { name := "searchFirst", fn := fun _ => fun
  | [d1, d2, d3] => { results := [.lit (.bool true)], args := [d1, d2, d3] }
  | _ => none }
def searchFirstRow : OpenClaim := { program := "ytomfgggomjbnfaa", sum := "6156572a604ecd12f40072bbb840099598d8c7bb76d609b123c0df1127db5249", func := "paternoster/paternosterlaw12.SearchFirst", spec := "searchFirst", unfollowed := true, recurses := true, plainKeys := false, apart := false }
def SearchFirstSaid : Prop := searchFirstRow.holds Try.pinned (OpenSpec.ofChange searchFirstSpec)

/-- ITS FALSE NEIGHBOUR: 'it returns false'. Refute it at one input. -/
def searchFirstWrong : ChangeSpec := { name := "searchFirst", fn := fun _ => fun
  | [d1, d2, d3] => { results := [.lit (.bool false)], args := [d1, d2, d3] }
  | _ => none }
def SearchFirstWrongFalsely : Prop := searchFirstRow.holds Try.pinned (OpenSpec.ofChange searchFirstWrong)

/-- 'paternosterlaw12.SearchAlike': WHATEVER THE INPUT: true; the input reads as it did. -/
def searchAlikeSpec : ChangeSpec := { name := "searchAlike", fn := fun _ => fun
  | [d1, d2] => { results := [.lit (.bool true)], args := [d1, d2] }
  | _ => none }
def searchAlikeRow : OpenClaim := { program := "ytomfgggomjbnfaa", sum := "6156572a604ecd12f40072bbb840099598d8c7bb76d609b123c0df1127db5249", func := "paternoster/paternosterlaw12.SearchAlike", spec := "searchAlike", unfollowed := true, recurses := true, plainKeys := false, apart := false }
def SearchAlikeSaid : Prop := searchAlikeRow.holds Try.pinned (OpenSpec.ofChange searchAlikeSpec)

/-- ITS FALSE NEIGHBOUR: 'it returns false'. Refute it at one input. -/
def searchAlikeWrong : ChangeSpec := { name := "searchAlike", fn := fun _ => fun
  | [d1, d2] => { results := [.lit (.bool false)], args := [d1, d2] }
  | _ => none }
def SearchAlikeWrongFalsely : Prop := searchAlikeRow.holds Try.pinned (OpenSpec.ofChange searchAlikeWrong)

/-- 'paternosterlaw13.CheckSearch': WHATEVER THE INPUT: true; the input reads as it did. -/
def checkSearchSpec : ChangeSpec := { name := "checkSearch", fn := fun _ => fun
  | [d1, d2] => { results := [.lit (.bool true)], args := [d1, d2] }
  | _ => none }
def checkSearchRow : OpenClaim := { program := "ytomfgggomjbnfaa", sum := "6156572a604ecd12f40072bbb840099598d8c7bb76d609b123c0df1127db5249", func := "paternoster/paternosterlaw13.CheckSearch", spec := "checkSearch", unfollowed := true, recurses := true, plainKeys := false, apart := false }
def CheckSearchSaid : Prop := checkSearchRow.holds Try.pinned (OpenSpec.ofChange checkSearchSpec)

/-- ITS FALSE NEIGHBOUR: 'it returns false'. Refute it at one input. -/
def checkSearchWrong : ChangeSpec := { name := "checkSearch", fn := fun _ => fun
  | [d1, d2] => { results := [.lit (.bool false)], args := [d1, d2] }
  | _ => none }
def CheckSearchWrongFalsely : Prop := checkSearchRow.holds Try.pinned (OpenSpec.ofChange checkSearchWrong)

/-- 'paternosterlaw13.CheckMarks': WHATEVER THE INPUT: true; the input reads as it did. -/
def checkMarksSpec : ChangeSpec := { name := "checkMarks", fn := fun _ => fun
  | [d1, d2, d3] => { results := [.lit (.bool true)], args := [d1, d2, d3] }
  | _ => none }
def checkMarksRow : OpenClaim := { program := "ytomfgggomjbnfaa", sum := "6156572a604ecd12f40072bbb840099598d8c7bb76d609b123c0df1127db5249", func := "paternoster/paternosterlaw13.CheckMarks", spec := "checkMarks", unfollowed := true, recurses := true, plainKeys := false, apart := false }
def CheckMarksSaid : Prop := checkMarksRow.holds Try.pinned (OpenSpec.ofChange checkMarksSpec)

/-- ITS FALSE NEIGHBOUR: 'it returns false'. Refute it at one input. -/
def checkMarksWrong : ChangeSpec := { name := "checkMarks", fn := fun _ => fun
  | [d1, d2, d3] => { results := [.lit (.bool false)], args := [d1, d2, d3] }
  | _ => none }
def CheckMarksWrongFalsely : Prop := checkMarksRow.holds Try.pinned (OpenSpec.ofChange checkMarksWrong)

/-- 'paternosterlaw16.SafeSteps': WHATEVER THE INPUT: true; the input reads as it did. -/
def safeStepsSpec : ChangeSpec := { name := "safeSteps", fn := fun _ => fun
  | [d1, d2, d3, d4, d5] => { results := [.lit (.bool true)], args := [d1, d2, d3, d4, d5] }
  | _ => none }
def safeStepsRow : OpenClaim := { program := "ytomfgggomjbnfaa", sum := "6156572a604ecd12f40072bbb840099598d8c7bb76d609b123c0df1127db5249", func := "paternoster/paternosterlaw16.SafeSteps", spec := "safeSteps", unfollowed := true, recurses := true, plainKeys := false, apart := false }
def SafeStepsSaid : Prop := safeStepsRow.holds Try.pinned (OpenSpec.ofChange safeStepsSpec)

/-- ITS FALSE NEIGHBOUR: 'it returns false'. Refute it at one input. -/
def safeStepsWrong : ChangeSpec := { name := "safeSteps", fn := fun _ => fun
  | [d1, d2, d3, d4, d5] => { results := [.lit (.bool false)], args := [d1, d2, d3, d4, d5] }
  | _ => none }
def SafeStepsWrongFalsely : Prop := safeStepsRow.holds Try.pinned (OpenSpec.ofChange safeStepsWrong)

/-- 'paternosterlaw16.SafeCalls': WHATEVER THE INPUT: true; the input reads as it did. -/
def safeCallsSpec : ChangeSpec := { name := "safeCalls", fn := fun _ => fun
  | [d1, d2, d3, d4, d5] => { results := [.lit (.bool true)], args := [d1, d2, d3, d4, d5] }
  | _ => none }
def safeCallsRow : OpenClaim := { program := "ytomfgggomjbnfaa", sum := "6156572a604ecd12f40072bbb840099598d8c7bb76d609b123c0df1127db5249", func := "paternoster/paternosterlaw16.SafeCalls", spec := "safeCalls", unfollowed := true, recurses := true, plainKeys := false, apart := false }
def SafeCallsSaid : Prop := safeCallsRow.holds Try.pinned (OpenSpec.ofChange safeCallsSpec)

/-- ITS FALSE NEIGHBOUR: 'it returns false'. Refute it at one input. -/
def safeCallsWrong : ChangeSpec := { name := "safeCalls", fn := fun _ => fun
  | [d1, d2, d3, d4, d5] => { results := [.lit (.bool false)], args := [d1, d2, d3, d4, d5] }
  | _ => none }
def SafeCallsWrongFalsely : Prop := safeCallsRow.holds Try.pinned (OpenSpec.ofChange safeCallsWrong)

/- THE SECOND FORM. 'bulk': how many values and letters a reading holds, each counted each time it is reached (what is shared counts as often as it is met; a slice's spare places count too). A statement '..UptoSaid' is the law's where the arguments, and the package variables that the reading takes, are together of bulk at most 1048576: NARROWER than '..Said'. Prove '..Said' where nothing that the law and all that it calls make is longer than what came in: it says more and counts as full. Else prove '..UptoSaid'. A law counts once. -/
mutual
def uptoBulk {H : Type} : DataW H → Nat
  | .lit (.string bytes) => bytes.length + 1
  | .lit _ => 1
  | .nil => 1
  | .ptr d => uptoBulk d + 1
  | .slice elems spare => uptoBulkAll elems + uptoBulkAll spare + 1
  | .agg parts => uptoBulkAll parts + 1
  | .iface _ d => uptoBulk d + 1
  | .map entries => uptoBulkEntries entries + 1
  | .held _ => 1
def uptoBulkAll {H : Type} : List (DataW H) → Nat
  | [] => 0
  | d :: r => uptoBulk d + uptoBulkAll r
def uptoBulkEntries {H : Type} : List (Lit × DataW H) → Nat
  | [] => 0
  | x :: r => uptoBulkEntry x + uptoBulkEntries r
def uptoBulkEntry {H : Type} : Lit × DataW H → Nat
  | (.string bytes, d) => bytes.length + uptoBulk d + 1
  | (_, d) => uptoBulk d + 1
 end
def uptoSmall : (H : Type) → List (DataW H) → Bool := fun _ ds => decide (uptoBulkAll ds ≤ 1048576)
def OpenSpec.upto (s : _root_.Go.ChangeSpec) : _root_.Go.OpenSpec := { _root_.Go.OpenSpec.ofChange s with cond := some uptoSmall }

/-- 'paternosterlaw13.CheckSound', WHERE WHAT IT READS IS OF BULK AT MOST 1048576: true; the input reads as it did. -/
def checkSoundUptoRow : OpenClaim := { program := "ytomfgggomjbnfaa", sum := "6156572a604ecd12f40072bbb840099598d8c7bb76d609b123c0df1127db5249", func := "paternoster/paternosterlaw13.CheckSound", spec := "checkSound", unfollowed := true, recurses := true, plainKeys := false, apart := false, narrowed := true }
def CheckSoundUptoSaid : Prop := checkSoundUptoRow.holds Try.pinned (OpenSpec.upto checkSoundSpec)

/-- 'paternosterlaw14.RuleOldest', WHERE WHAT IT READS IS OF BULK AT MOST 1048576: true; the input reads as it did. -/
def ruleOldestUptoRow : OpenClaim := { program := "ytomfgggomjbnfaa", sum := "6156572a604ecd12f40072bbb840099598d8c7bb76d609b123c0df1127db5249", func := "paternoster/paternosterlaw14.RuleOldest", spec := "ruleOldest", unfollowed := true, recurses := true, plainKeys := false, apart := false, narrowed := true }
def RuleOldestUptoSaid : Prop := ruleOldestUptoRow.holds Try.pinned (OpenSpec.upto ruleOldestSpec)

/-- 'paternosterlaw12.SearchTold', WHERE WHAT IT READS IS OF BULK AT MOST 1048576: true; the input reads as it did. -/
def searchToldUptoRow : OpenClaim := { program := "ytomfgggomjbnfaa", sum := "6156572a604ecd12f40072bbb840099598d8c7bb76d609b123c0df1127db5249", func := "paternoster/paternosterlaw12.SearchTold", spec := "searchTold", unfollowed := true, recurses := true, plainKeys := false, apart := false, narrowed := true }
def SearchToldUptoSaid : Prop := searchToldUptoRow.holds Try.pinned (OpenSpec.upto searchToldSpec)

/-- 'paternosterlaw12.SearchBest', WHERE WHAT IT READS IS OF BULK AT MOST 1048576: true; the input reads as it did. -/
def searchBestUptoRow : OpenClaim := { program := "ytomfgggomjbnfaa", sum := "6156572a604ecd12f40072bbb840099598d8c7bb76d609b123c0df1127db5249", func := "paternoster/paternosterlaw12.SearchBest", spec := "searchBest", unfollowed := true, recurses := true, plainKeys := false, apart := false, narrowed := true }
def SearchBestUptoSaid : Prop := searchBestUptoRow.holds Try.pinned (OpenSpec.upto searchBestSpec)

/-- 'paternosterlaw12.SearchFirst', WHERE WHAT IT READS IS OF BULK AT MOST 1048576: true; the input reads as it did. -/
def searchFirstUptoRow : OpenClaim := { program := "ytomfgggomjbnfaa", sum := "6156572a604ecd12f40072bbb840099598d8c7bb76d609b123c0df1127db5249", func := "paternoster/paternosterlaw12.SearchFirst", spec := "searchFirst", unfollowed := true, recurses := true, plainKeys := false, apart := false, narrowed := true }
def SearchFirstUptoSaid : Prop := searchFirstUptoRow.holds Try.pinned (OpenSpec.upto searchFirstSpec)

/-- 'paternosterlaw12.SearchAlike', WHERE WHAT IT READS IS OF BULK AT MOST 1048576: true; the input reads as it did. -/
def searchAlikeUptoRow : OpenClaim := { program := "ytomfgggomjbnfaa", sum := "6156572a604ecd12f40072bbb840099598d8c7bb76d609b123c0df1127db5249", func := "paternoster/paternosterlaw12.SearchAlike", spec := "searchAlike", unfollowed := true, recurses := true, plainKeys := false, apart := false, narrowed := true }
def SearchAlikeUptoSaid : Prop := searchAlikeUptoRow.holds Try.pinned (OpenSpec.upto searchAlikeSpec)

/-- 'paternosterlaw13.CheckSearch', WHERE WHAT IT READS IS OF BULK AT MOST 1048576: true; the input reads as it did. -/
def checkSearchUptoRow : OpenClaim := { program := "ytomfgggomjbnfaa", sum := "6156572a604ecd12f40072bbb840099598d8c7bb76d609b123c0df1127db5249", func := "paternoster/paternosterlaw13.CheckSearch", spec := "checkSearch", unfollowed := true, recurses := true, plainKeys := false, apart := false, narrowed := true }
def CheckSearchUptoSaid : Prop := checkSearchUptoRow.holds Try.pinned (OpenSpec.upto checkSearchSpec)

/-- 'paternosterlaw13.CheckMarks', WHERE WHAT IT READS IS OF BULK AT MOST 1048576: true; the input reads as it did. -/
def checkMarksUptoRow : OpenClaim := { program := "ytomfgggomjbnfaa", sum := "6156572a604ecd12f40072bbb840099598d8c7bb76d609b123c0df1127db5249", func := "paternoster/paternosterlaw13.CheckMarks", spec := "checkMarks", unfollowed := true, recurses := true, plainKeys := false, apart := false, narrowed := true }
def CheckMarksUptoSaid : Prop := checkMarksUptoRow.holds Try.pinned (OpenSpec.upto checkMarksSpec)

/-- 'paternosterlaw16.SafeSteps', WHERE WHAT IT READS IS OF BULK AT MOST 1048576: true; the input reads as it did. -/
def safeStepsUptoRow : OpenClaim := { program := "ytomfgggomjbnfaa", sum := "6156572a604ecd12f40072bbb840099598d8c7bb76d609b123c0df1127db5249", func := "paternoster/paternosterlaw16.SafeSteps", spec := "safeSteps", unfollowed := true, recurses := true, plainKeys := false, apart := false, narrowed := true }
def SafeStepsUptoSaid : Prop := safeStepsUptoRow.holds Try.pinned (OpenSpec.upto safeStepsSpec)

/-- 'paternosterlaw16.SafeCalls', WHERE WHAT IT READS IS OF BULK AT MOST 1048576: true; the input reads as it did. -/
def safeCallsUptoRow : OpenClaim := { program := "ytomfgggomjbnfaa", sum := "6156572a604ecd12f40072bbb840099598d8c7bb76d609b123c0df1127db5249", func := "paternoster/paternosterlaw16.SafeCalls", spec := "safeCalls", unfollowed := true, recurses := true, plainKeys := false, apart := false, narrowed := true }
def SafeCallsUptoSaid : Prop := safeCallsUptoRow.holds Try.pinned (OpenSpec.upto safeCallsSpec)

end Rows
end Go.Proofs.Ytomfgggomjbnfaa
