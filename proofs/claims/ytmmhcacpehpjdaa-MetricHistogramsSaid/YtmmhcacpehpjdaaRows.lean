/-
  No cell of these rows narrows 'for every input' (looked for: loops, veiled, ifaces, maps, wideKeys, modest, calm, conditions, laid).
  DERIVED. THE GIVEN ROWS OF THIS SEAT. 11 by the template 'for every input the law returns true; each argument reads behind the call as it read before'; 0 by the template 'total and deterministic' (their statements: YtmmhcacpehpjdaaTotals.lean).
  GIVEN WITH THE SEED: the statements are not yours to turn. If you find one false, say at which input.
  Laid BY PROGRAM, IN A SANDBOX (cutbox-rows.mjs): the forced cells as the released guide's own fill.sh prints them over the translation 142b005866c31a72… (all of the seat's roots in one cut). By AI agents, Wed Nov 11 2026. No macro, syntax, notation, axiom, sorry.
-/
import Derived.Test.YtmmhcacpehpjdaaChecked
import GoSem.Claim
import GoSem.ClaimJoined
import GoSem.ClaimMapViews
import Derived.JoinedTies
import Derived.KernelRfl
namespace Go.Proofs.Ytmmhcacpehpjdaa
/- THE CELL 'sum', in the pinned program and in every row, IS THE sha256 OF THE DUMP (.gsa) THAT YtmmhcacpehpjdaaProg.lean LOADS. Nothing in Lean hashes anything: it is a label: what it is worth is what the hold of that sum in a sandbox is worth. -/
noncomputable def Try.pinned : Pinned := { name := "ytmmhcacpehpjdaa", sum := "142b005866c31a7288192d925cf9712d2a4ea6acaf4a34fcf43eb4a59c2f54dd", checked := Try.checked }
namespace Rows
def none {H : Type} : Left H := { results := [], args := [] }

/-- 'faaslaw19.AlarmRules': WHATEVER THE INPUT: true; the input reads as it did. -/
def alarmRulesSpec : ChangeSpec := { name := "alarmRules", fn := fun _ => fun
  | [d1, d2] => { results := [.lit (.bool true)], args := [d1, d2] }
  | _ => none }
def alarmRulesRow : OpenClaim := { program := "ytmmhcacpehpjdaa", sum := "142b005866c31a7288192d925cf9712d2a4ea6acaf4a34fcf43eb4a59c2f54dd", func := "faas/faaslaw19.AlarmRules", spec := "alarmRules", unfollowed := true, recurses := true, apart := false }
def AlarmRulesSaid : Prop := alarmRulesRow.holds Try.pinned (OpenSpec.ofChange alarmRulesSpec)

/-- ITS FALSE NEIGHBOUR: 'it returns false'. Refute it at one input. -/
def alarmRulesWrong : ChangeSpec := { name := "alarmRules", fn := fun _ => fun
  | [d1, d2] => { results := [.lit (.bool false)], args := [d1, d2] }
  | _ => none }
def AlarmRulesWrongFalsely : Prop := alarmRulesRow.holds Try.pinned (OpenSpec.ofChange alarmRulesWrong)

/-- 'faaslaw19.AlarmStates': WHATEVER THE INPUT: true; the input reads as it did. -/
def alarmStatesSpec : ChangeSpec := { name := "alarmStates", fn := fun _ => fun
  | [d1, d2, d3, d4] => { results := [.lit (.bool true)], args := [d1, d2, d3, d4] }
  | _ => none }
def alarmStatesRow : OpenClaim := { program := "ytmmhcacpehpjdaa", sum := "142b005866c31a7288192d925cf9712d2a4ea6acaf4a34fcf43eb4a59c2f54dd", func := "faas/faaslaw19.AlarmStates", spec := "alarmStates", unfollowed := true, recurses := true, apart := false }
def AlarmStatesSaid : Prop := alarmStatesRow.holds Try.pinned (OpenSpec.ofChange alarmStatesSpec)

/-- ITS FALSE NEIGHBOUR: 'it returns false'. Refute it at one input. -/
def alarmStatesWrong : ChangeSpec := { name := "alarmStates", fn := fun _ => fun
  | [d1, d2, d3, d4] => { results := [.lit (.bool false)], args := [d1, d2, d3, d4] }
  | _ => none }
def AlarmStatesWrongFalsely : Prop := alarmStatesRow.holds Try.pinned (OpenSpec.ofChange alarmStatesWrong)

/-- 'faaslaw19.AlarmHistory': WHATEVER THE INPUT: true; the input reads as it did. -/
def alarmHistorySpec : ChangeSpec := { name := "alarmHistory", fn := fun _ => fun
  | [d1, d2, d3, d4] => { results := [.lit (.bool true)], args := [d1, d2, d3, d4] }
  | _ => none }
def alarmHistoryRow : OpenClaim := { program := "ytmmhcacpehpjdaa", sum := "142b005866c31a7288192d925cf9712d2a4ea6acaf4a34fcf43eb4a59c2f54dd", func := "faas/faaslaw19.AlarmHistory", spec := "alarmHistory", unfollowed := true, recurses := true, apart := false }
def AlarmHistorySaid : Prop := alarmHistoryRow.holds Try.pinned (OpenSpec.ofChange alarmHistorySpec)

/-- ITS FALSE NEIGHBOUR: 'it returns false'. Refute it at one input. -/
def alarmHistoryWrong : ChangeSpec := { name := "alarmHistory", fn := fun _ => fun
  | [d1, d2, d3, d4] => { results := [.lit (.bool false)], args := [d1, d2, d3, d4] }
  | _ => none }
def AlarmHistoryWrongFalsely : Prop := alarmHistoryRow.holds Try.pinned (OpenSpec.ofChange alarmHistoryWrong)

/-- 'faaslaw19.AlarmCountsWindows': WHATEVER THE INPUT: true; the input reads as it did. -/
def alarmCountsWindowsSpec : ChangeSpec := { name := "alarmCountsWindows", fn := fun _ => fun
  | [d1, d2] => { results := [.lit (.bool true)], args := [d1, d2] }
  | _ => none }
def alarmCountsWindowsRow : OpenClaim := { program := "ytmmhcacpehpjdaa", sum := "142b005866c31a7288192d925cf9712d2a4ea6acaf4a34fcf43eb4a59c2f54dd", func := "faas/faaslaw19.AlarmCountsWindows", spec := "alarmCountsWindows", unfollowed := true, recurses := true, apart := false }
def AlarmCountsWindowsSaid : Prop := alarmCountsWindowsRow.holds Try.pinned (OpenSpec.ofChange alarmCountsWindowsSpec)

/-- ITS FALSE NEIGHBOUR: 'it returns false'. Refute it at one input. -/
def alarmCountsWindowsWrong : ChangeSpec := { name := "alarmCountsWindows", fn := fun _ => fun
  | [d1, d2] => { results := [.lit (.bool false)], args := [d1, d2] }
  | _ => none }
def AlarmCountsWindowsWrongFalsely : Prop := alarmCountsWindowsRow.holds Try.pinned (OpenSpec.ofChange alarmCountsWindowsWrong)

/-- 'faaslaw19.AlarmChanges': WHATEVER THE INPUT: true; the input reads as it did. -/
def alarmChangesSpec : ChangeSpec := { name := "alarmChanges", fn := fun _ => fun
  | [d1, d2, d3, d4, d5] => { results := [.lit (.bool true)], args := [d1, d2, d3, d4, d5] }
  | _ => none }
def alarmChangesRow : OpenClaim := { program := "ytmmhcacpehpjdaa", sum := "142b005866c31a7288192d925cf9712d2a4ea6acaf4a34fcf43eb4a59c2f54dd", func := "faas/faaslaw19.AlarmChanges", spec := "alarmChanges", unfollowed := true, recurses := true, apart := false }
def AlarmChangesSaid : Prop := alarmChangesRow.holds Try.pinned (OpenSpec.ofChange alarmChangesSpec)

/-- ITS FALSE NEIGHBOUR: 'it returns false'. Refute it at one input. -/
def alarmChangesWrong : ChangeSpec := { name := "alarmChanges", fn := fun _ => fun
  | [d1, d2, d3, d4, d5] => { results := [.lit (.bool false)], args := [d1, d2, d3, d4, d5] }
  | _ => none }
def AlarmChangesWrongFalsely : Prop := alarmChangesRow.holds Try.pinned (OpenSpec.ofChange alarmChangesWrong)

/-- 'faaslaw18.MetricWindows': WHATEVER THE INPUT: true; the input reads as it did. -/
def metricWindowsSpec : ChangeSpec := { name := "metricWindows", fn := fun _ => fun
  | [d1, d2, d3, d4] => { results := [.lit (.bool true)], args := [d1, d2, d3, d4] }
  | _ => none }
def metricWindowsRow : OpenClaim := { program := "ytmmhcacpehpjdaa", sum := "142b005866c31a7288192d925cf9712d2a4ea6acaf4a34fcf43eb4a59c2f54dd", func := "faas/faaslaw18.MetricWindows", spec := "metricWindows", unfollowed := true, recurses := true, apart := false }
def MetricWindowsSaid : Prop := metricWindowsRow.holds Try.pinned (OpenSpec.ofChange metricWindowsSpec)

/-- ITS FALSE NEIGHBOUR: 'it returns false'. Refute it at one input. -/
def metricWindowsWrong : ChangeSpec := { name := "metricWindows", fn := fun _ => fun
  | [d1, d2, d3, d4] => { results := [.lit (.bool false)], args := [d1, d2, d3, d4] }
  | _ => none }
def MetricWindowsWrongFalsely : Prop := metricWindowsRow.holds Try.pinned (OpenSpec.ofChange metricWindowsWrong)

/-- 'faaslaw18.MetricHistograms': WHATEVER THE INPUT: true; the input reads as it did. -/
def metricHistogramsSpec : ChangeSpec := { name := "metricHistograms", fn := fun _ => fun
  | [d1, d2] => { results := [.lit (.bool true)], args := [d1, d2] }
  | _ => none }
def metricHistogramsRow : OpenClaim := { program := "ytmmhcacpehpjdaa", sum := "142b005866c31a7288192d925cf9712d2a4ea6acaf4a34fcf43eb4a59c2f54dd", func := "faas/faaslaw18.MetricHistograms", spec := "metricHistograms", unfollowed := true, recurses := true, apart := false }
def MetricHistogramsSaid : Prop := metricHistogramsRow.holds Try.pinned (OpenSpec.ofChange metricHistogramsSpec)

/-- ITS FALSE NEIGHBOUR: 'it returns false'. Refute it at one input. -/
def metricHistogramsWrong : ChangeSpec := { name := "metricHistograms", fn := fun _ => fun
  | [d1, d2] => { results := [.lit (.bool false)], args := [d1, d2] }
  | _ => none }
def MetricHistogramsWrongFalsely : Prop := metricHistogramsRow.holds Try.pinned (OpenSpec.ofChange metricHistogramsWrong)

/-- 'faaslaw18.MetricPercentiles': WHATEVER THE INPUT: true; the input reads as it did. -/
def metricPercentilesSpec : ChangeSpec := { name := "metricPercentiles", fn := fun _ => fun
  | [d1, d2, d3, d4, d5] => { results := [.lit (.bool true)], args := [d1, d2, d3, d4, d5] }
  | _ => none }
def metricPercentilesRow : OpenClaim := { program := "ytmmhcacpehpjdaa", sum := "142b005866c31a7288192d925cf9712d2a4ea6acaf4a34fcf43eb4a59c2f54dd", func := "faas/faaslaw18.MetricPercentiles", spec := "metricPercentiles", unfollowed := true, recurses := true, apart := false }
def MetricPercentilesSaid : Prop := metricPercentilesRow.holds Try.pinned (OpenSpec.ofChange metricPercentilesSpec)

/-- ITS FALSE NEIGHBOUR: 'it returns false'. Refute it at one input. -/
def metricPercentilesWrong : ChangeSpec := { name := "metricPercentiles", fn := fun _ => fun
  | [d1, d2, d3, d4, d5] => { results := [.lit (.bool false)], args := [d1, d2, d3, d4, d5] }
  | _ => none }
def MetricPercentilesWrongFalsely : Prop := metricPercentilesRow.holds Try.pinned (OpenSpec.ofChange metricPercentilesWrong)

/-- 'faaslaw18.MetricStats': WHATEVER THE INPUT: true; the input reads as it did. -/
def metricStatsSpec : ChangeSpec := { name := "metricStats", fn := fun _ => fun
  | [d1, d2, d3] => { results := [.lit (.bool true)], args := [d1, d2, d3] }
  | _ => none }
def metricStatsRow : OpenClaim := { program := "ytmmhcacpehpjdaa", sum := "142b005866c31a7288192d925cf9712d2a4ea6acaf4a34fcf43eb4a59c2f54dd", func := "faas/faaslaw18.MetricStats", spec := "metricStats", unfollowed := true, recurses := true, apart := false }
def MetricStatsSaid : Prop := metricStatsRow.holds Try.pinned (OpenSpec.ofChange metricStatsSpec)

/-- ITS FALSE NEIGHBOUR: 'it returns false'. Refute it at one input. -/
def metricStatsWrong : ChangeSpec := { name := "metricStats", fn := fun _ => fun
  | [d1, d2, d3] => { results := [.lit (.bool false)], args := [d1, d2, d3] }
  | _ => none }
def MetricStatsWrongFalsely : Prop := metricStatsRow.holds Try.pinned (OpenSpec.ofChange metricStatsWrong)

/-- 'faaslaw18.MetricSeries': WHATEVER THE INPUT: true; the input reads as it did. -/
def metricSeriesSpec : ChangeSpec := { name := "metricSeries", fn := fun _ => fun
  | [d1, d2, d3, d4] => { results := [.lit (.bool true)], args := [d1, d2, d3, d4] }
  | _ => none }
def metricSeriesRow : OpenClaim := { program := "ytmmhcacpehpjdaa", sum := "142b005866c31a7288192d925cf9712d2a4ea6acaf4a34fcf43eb4a59c2f54dd", func := "faas/faaslaw18.MetricSeries", spec := "metricSeries", unfollowed := true, recurses := true, apart := false }
def MetricSeriesSaid : Prop := metricSeriesRow.holds Try.pinned (OpenSpec.ofChange metricSeriesSpec)

/-- ITS FALSE NEIGHBOUR: 'it returns false'. Refute it at one input. -/
def metricSeriesWrong : ChangeSpec := { name := "metricSeries", fn := fun _ => fun
  | [d1, d2, d3, d4] => { results := [.lit (.bool false)], args := [d1, d2, d3, d4] }
  | _ => none }
def MetricSeriesWrongFalsely : Prop := metricSeriesRow.holds Try.pinned (OpenSpec.ofChange metricSeriesWrong)

/-- 'faaslaw18.MetricMerges': WHATEVER THE INPUT: true; the input reads as it did. -/
def metricMergesSpec : ChangeSpec := { name := "metricMerges", fn := fun _ => fun
  | [d1, d2, d3, d4] => { results := [.lit (.bool true)], args := [d1, d2, d3, d4] }
  | _ => none }
def metricMergesRow : OpenClaim := { program := "ytmmhcacpehpjdaa", sum := "142b005866c31a7288192d925cf9712d2a4ea6acaf4a34fcf43eb4a59c2f54dd", func := "faas/faaslaw18.MetricMerges", spec := "metricMerges", unfollowed := true, recurses := true, apart := false }
def MetricMergesSaid : Prop := metricMergesRow.holds Try.pinned (OpenSpec.ofChange metricMergesSpec)

/-- ITS FALSE NEIGHBOUR: 'it returns false'. Refute it at one input. -/
def metricMergesWrong : ChangeSpec := { name := "metricMerges", fn := fun _ => fun
  | [d1, d2, d3, d4] => { results := [.lit (.bool false)], args := [d1, d2, d3, d4] }
  | _ => none }
def MetricMergesWrongFalsely : Prop := metricMergesRow.holds Try.pinned (OpenSpec.ofChange metricMergesWrong)

/- THE SECOND FORM. 'bulk': how many values and letters a reading holds, each counted each time it is reached (what is shared counts as often as it is met; a slice's spare places count too). A statement '..UptoSaid' is the law's where the arguments, and the package variables that the reading takes, are together of bulk at most 1048576: NARROWER than '..Said'. Prove '..Said' where nothing that the law and all that it calls make is longer than what came in: it says more and counts as full. Else prove '..UptoSaid'. A law counts once. -/
mutual
def uptoBulk {H : Type} : DataW H → Nat
  | .lit (.string bytes) => bytes.length + 1
  | .lit _ => 1
  | .nil => 1
  | .ptr d => uptoBulk d + 1
  | .slice elems spare => uptoBulkAll elems + uptoBulkAll spare + 1
  | .agg parts => uptoBulkAll parts + 1
  | .iface _ d => uptoBulk d + 1
  | .map entries => uptoBulkEntries entries + 1
  | .held _ => 1
def uptoBulkAll {H : Type} : List (DataW H) → Nat
  | [] => 0
  | d :: r => uptoBulk d + uptoBulkAll r
def uptoBulkEntries {H : Type} : List (Lit × DataW H) → Nat
  | [] => 0
  | x :: r => uptoBulkEntry x + uptoBulkEntries r
def uptoBulkEntry {H : Type} : Lit × DataW H → Nat
  | (.string bytes, d) => bytes.length + uptoBulk d + 1
  | (_, d) => uptoBulk d + 1
 end
def uptoSmall : (H : Type) → List (DataW H) → Bool := fun _ ds => decide (uptoBulkAll ds ≤ 1048576)
def OpenSpec.upto (s : _root_.Go.ChangeSpec) : _root_.Go.OpenSpec := { _root_.Go.OpenSpec.ofChange s with cond := some uptoSmall }

/-- 'faaslaw19.AlarmRules', WHERE WHAT IT READS IS OF BULK AT MOST 1048576: true; the input reads as it did. -/
def alarmRulesUptoRow : OpenClaim := { program := "ytmmhcacpehpjdaa", sum := "142b005866c31a7288192d925cf9712d2a4ea6acaf4a34fcf43eb4a59c2f54dd", func := "faas/faaslaw19.AlarmRules", spec := "alarmRules", unfollowed := true, recurses := true, apart := false, narrowed := true }
def AlarmRulesUptoSaid : Prop := alarmRulesUptoRow.holds Try.pinned (OpenSpec.upto alarmRulesSpec)

/-- 'faaslaw19.AlarmStates', WHERE WHAT IT READS IS OF BULK AT MOST 1048576: true; the input reads as it did. -/
def alarmStatesUptoRow : OpenClaim := { program := "ytmmhcacpehpjdaa", sum := "142b005866c31a7288192d925cf9712d2a4ea6acaf4a34fcf43eb4a59c2f54dd", func := "faas/faaslaw19.AlarmStates", spec := "alarmStates", unfollowed := true, recurses := true, apart := false, narrowed := true }
def AlarmStatesUptoSaid : Prop := alarmStatesUptoRow.holds Try.pinned (OpenSpec.upto alarmStatesSpec)

/-- 'faaslaw19.AlarmHistory', WHERE WHAT IT READS IS OF BULK AT MOST 1048576: true; the input reads as it did. -/
def alarmHistoryUptoRow : OpenClaim := { program := "ytmmhcacpehpjdaa", sum := "142b005866c31a7288192d925cf9712d2a4ea6acaf4a34fcf43eb4a59c2f54dd", func := "faas/faaslaw19.AlarmHistory", spec := "alarmHistory", unfollowed := true, recurses := true, apart := false, narrowed := true }
def AlarmHistoryUptoSaid : Prop := alarmHistoryUptoRow.holds Try.pinned (OpenSpec.upto alarmHistorySpec)

/-- 'faaslaw19.AlarmCountsWindows', WHERE WHAT IT READS IS OF BULK AT MOST 1048576: true; the input reads as it did. -/
def alarmCountsWindowsUptoRow : OpenClaim := { program := "ytmmhcacpehpjdaa", sum := "142b005866c31a7288192d925cf9712d2a4ea6acaf4a34fcf43eb4a59c2f54dd", func := "faas/faaslaw19.AlarmCountsWindows", spec := "alarmCountsWindows", unfollowed := true, recurses := true, apart := false, narrowed := true }
def AlarmCountsWindowsUptoSaid : Prop := alarmCountsWindowsUptoRow.holds Try.pinned (OpenSpec.upto alarmCountsWindowsSpec)

/-- 'faaslaw19.AlarmChanges', WHERE WHAT IT READS IS OF BULK AT MOST 1048576: true; the input reads as it did. -/
def alarmChangesUptoRow : OpenClaim := { program := "ytmmhcacpehpjdaa", sum := "142b005866c31a7288192d925cf9712d2a4ea6acaf4a34fcf43eb4a59c2f54dd", func := "faas/faaslaw19.AlarmChanges", spec := "alarmChanges", unfollowed := true, recurses := true, apart := false, narrowed := true }
def AlarmChangesUptoSaid : Prop := alarmChangesUptoRow.holds Try.pinned (OpenSpec.upto alarmChangesSpec)

/-- 'faaslaw18.MetricWindows', WHERE WHAT IT READS IS OF BULK AT MOST 1048576: true; the input reads as it did. -/
def metricWindowsUptoRow : OpenClaim := { program := "ytmmhcacpehpjdaa", sum := "142b005866c31a7288192d925cf9712d2a4ea6acaf4a34fcf43eb4a59c2f54dd", func := "faas/faaslaw18.MetricWindows", spec := "metricWindows", unfollowed := true, recurses := true, apart := false, narrowed := true }
def MetricWindowsUptoSaid : Prop := metricWindowsUptoRow.holds Try.pinned (OpenSpec.upto metricWindowsSpec)

/-- 'faaslaw18.MetricHistograms', WHERE WHAT IT READS IS OF BULK AT MOST 1048576: true; the input reads as it did. -/
def metricHistogramsUptoRow : OpenClaim := { program := "ytmmhcacpehpjdaa", sum := "142b005866c31a7288192d925cf9712d2a4ea6acaf4a34fcf43eb4a59c2f54dd", func := "faas/faaslaw18.MetricHistograms", spec := "metricHistograms", unfollowed := true, recurses := true, apart := false, narrowed := true }
def MetricHistogramsUptoSaid : Prop := metricHistogramsUptoRow.holds Try.pinned (OpenSpec.upto metricHistogramsSpec)

/-- 'faaslaw18.MetricPercentiles', WHERE WHAT IT READS IS OF BULK AT MOST 1048576: true; the input reads as it did. -/
def metricPercentilesUptoRow : OpenClaim := { program := "ytmmhcacpehpjdaa", sum := "142b005866c31a7288192d925cf9712d2a4ea6acaf4a34fcf43eb4a59c2f54dd", func := "faas/faaslaw18.MetricPercentiles", spec := "metricPercentiles", unfollowed := true, recurses := true, apart := false, narrowed := true }
def MetricPercentilesUptoSaid : Prop := metricPercentilesUptoRow.holds Try.pinned (OpenSpec.upto metricPercentilesSpec)

/-- 'faaslaw18.MetricStats', WHERE WHAT IT READS IS OF BULK AT MOST 1048576: true; the input reads as it did. -/
def metricStatsUptoRow : OpenClaim := { program := "ytmmhcacpehpjdaa", sum := "142b005866c31a7288192d925cf9712d2a4ea6acaf4a34fcf43eb4a59c2f54dd", func := "faas/faaslaw18.MetricStats", spec := "metricStats", unfollowed := true, recurses := true, apart := false, narrowed := true }
def MetricStatsUptoSaid : Prop := metricStatsUptoRow.holds Try.pinned (OpenSpec.upto metricStatsSpec)

/-- 'faaslaw18.MetricSeries', WHERE WHAT IT READS IS OF BULK AT MOST 1048576: true; the input reads as it did. -/
def metricSeriesUptoRow : OpenClaim := { program := "ytmmhcacpehpjdaa", sum := "142b005866c31a7288192d925cf9712d2a4ea6acaf4a34fcf43eb4a59c2f54dd", func := "faas/faaslaw18.MetricSeries", spec := "metricSeries", unfollowed := true, recurses := true, apart := false, narrowed := true }
def MetricSeriesUptoSaid : Prop := metricSeriesUptoRow.holds Try.pinned (OpenSpec.upto metricSeriesSpec)

/-- 'faaslaw18.MetricMerges', WHERE WHAT IT READS IS OF BULK AT MOST 1048576: true; the input reads as it did. -/
def metricMergesUptoRow : OpenClaim := { program := "ytmmhcacpehpjdaa", sum := "142b005866c31a7288192d925cf9712d2a4ea6acaf4a34fcf43eb4a59c2f54dd", func := "faas/faaslaw18.MetricMerges", spec := "metricMerges", unfollowed := true, recurses := true, apart := false, narrowed := true }
def MetricMergesUptoSaid : Prop := metricMergesUptoRow.holds Try.pinned (OpenSpec.upto metricMergesSpec)

end Rows
end Go.Proofs.Ytmmhcacpehpjdaa
