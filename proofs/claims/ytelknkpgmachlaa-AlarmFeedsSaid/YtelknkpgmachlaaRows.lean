/-
  No cell of these rows narrows 'for every input' (looked for: loops, veiled, ifaces, maps, wideKeys, modest, calm, conditions, laid).
  DERIVED. THE GIVEN ROWS OF THIS SEAT. 7 by the template 'for every input the law returns true; each argument reads behind the call as it read before'; 0 by the template 'total and deterministic' (their statements: YtelknkpgmachlaaTotals.lean).
  GIVEN WITH THE SEED: the statements are not yours to turn. If you find one false, say at which input.
  Laid BY PROGRAM, IN A SANDBOX (cutbox-rows.mjs): the forced cells as the released guide's own fill.sh prints them over the translation 5a18cc9e00c76b42… (all of the seat's roots in one cut). By AI agents, Wed Nov 11 2026. No macro, syntax, notation, axiom, sorry.
-/
import Derived.Test.YtelknkpgmachlaaChecked
import GoSem.Claim
import GoSem.ClaimJoined
import GoSem.ClaimMapViews
import Derived.JoinedTies
import Derived.KernelRfl
namespace Go.Proofs.Ytelknkpgmachlaa
/- THE CELL 'sum', in the pinned program and in every row, IS THE sha256 OF THE DUMP (.gsa) THAT YtelknkpgmachlaaProg.lean LOADS. Nothing in Lean hashes anything: it is a label: what it is worth is what the hold of that sum in a sandbox is worth. -/
noncomputable def Try.pinned : Pinned := { name := "ytelknkpgmachlaa", sum := "5a18cc9e00c76b42d30f3036d8493730154fe45eff52fec2009bb37b70bd3e4f", checked := Try.checked }
namespace Rows
def none {H : Type} : Left H := { results := [], args := [] }

/-- 'timesynclaw49.AlarmChecks': WHATEVER THE INPUT: true; the input reads as it did. -/
def alarmChecksSpec : ChangeSpec := { name := "alarmChecks", fn := fun _ => fun
  | [d] => { results := [.lit (.bool true)], args := [d] }
  | _ => none }
def alarmChecksRow : OpenClaim := { program := "ytelknkpgmachlaa", sum := "5a18cc9e00c76b42d30f3036d8493730154fe45eff52fec2009bb37b70bd3e4f", func := "timesync/timesynclaw49.AlarmChecks", spec := "alarmChecks", unfollowed := true, recurses := true, apart := false }
def AlarmChecksSaid : Prop := alarmChecksRow.holds Try.pinned (OpenSpec.ofChange alarmChecksSpec)

/-- ITS FALSE NEIGHBOUR: 'it returns false'. Refute it at one input. -/
def alarmChecksWrong : ChangeSpec := { name := "alarmChecks", fn := fun _ => fun
  | [d] => { results := [.lit (.bool false)], args := [d] }
  | _ => none }
def AlarmChecksWrongFalsely : Prop := alarmChecksRow.holds Try.pinned (OpenSpec.ofChange alarmChecksWrong)

/-- 'timesynclaw49.AlarmFeeds': WHATEVER THE INPUT: true; the input reads as it did. -/
def alarmFeedsSpec : ChangeSpec := { name := "alarmFeeds", fn := fun _ => fun
  | [d1, d2] => { results := [.lit (.bool true)], args := [d1, d2] }
  | _ => none }
def alarmFeedsRow : OpenClaim := { program := "ytelknkpgmachlaa", sum := "5a18cc9e00c76b42d30f3036d8493730154fe45eff52fec2009bb37b70bd3e4f", func := "timesync/timesynclaw49.AlarmFeeds", spec := "alarmFeeds", unfollowed := true, recurses := true, apart := false }
def AlarmFeedsSaid : Prop := alarmFeedsRow.holds Try.pinned (OpenSpec.ofChange alarmFeedsSpec)

/-- ITS FALSE NEIGHBOUR: 'it returns false'. Refute it at one input. -/
def alarmFeedsWrong : ChangeSpec := { name := "alarmFeeds", fn := fun _ => fun
  | [d1, d2] => { results := [.lit (.bool false)], args := [d1, d2] }
  | _ => none }
def AlarmFeedsWrongFalsely : Prop := alarmFeedsRow.holds Try.pinned (OpenSpec.ofChange alarmFeedsWrong)

/-- 'timesynclaw49.AlarmAlternates': WHATEVER THE INPUT: true; the input reads as it did. -/
def alarmAlternatesSpec : ChangeSpec := { name := "alarmAlternates", fn := fun _ => fun
  | [d1, d2] => { results := [.lit (.bool true)], args := [d1, d2] }
  | _ => none }
def alarmAlternatesRow : OpenClaim := { program := "ytelknkpgmachlaa", sum := "5a18cc9e00c76b42d30f3036d8493730154fe45eff52fec2009bb37b70bd3e4f", func := "timesync/timesynclaw49.AlarmAlternates", spec := "alarmAlternates", unfollowed := true, recurses := true, apart := false }
def AlarmAlternatesSaid : Prop := alarmAlternatesRow.holds Try.pinned (OpenSpec.ofChange alarmAlternatesSpec)

/-- ITS FALSE NEIGHBOUR: 'it returns false'. Refute it at one input. -/
def alarmAlternatesWrong : ChangeSpec := { name := "alarmAlternates", fn := fun _ => fun
  | [d1, d2] => { results := [.lit (.bool false)], args := [d1, d2] }
  | _ => none }
def AlarmAlternatesWrongFalsely : Prop := alarmAlternatesRow.holds Try.pinned (OpenSpec.ofChange alarmAlternatesWrong)

/-- 'timesynclaw49.AlarmHysteresis': WHATEVER THE INPUT: true; the input reads as it did. -/
def alarmHysteresisSpec : ChangeSpec := { name := "alarmHysteresis", fn := fun _ => fun
  | [d1, d2] => { results := [.lit (.bool true)], args := [d1, d2] }
  | _ => none }
def alarmHysteresisRow : OpenClaim := { program := "ytelknkpgmachlaa", sum := "5a18cc9e00c76b42d30f3036d8493730154fe45eff52fec2009bb37b70bd3e4f", func := "timesync/timesynclaw49.AlarmHysteresis", spec := "alarmHysteresis", unfollowed := true, recurses := true, apart := false }
def AlarmHysteresisSaid : Prop := alarmHysteresisRow.holds Try.pinned (OpenSpec.ofChange alarmHysteresisSpec)

/-- ITS FALSE NEIGHBOUR: 'it returns false'. Refute it at one input. -/
def alarmHysteresisWrong : ChangeSpec := { name := "alarmHysteresis", fn := fun _ => fun
  | [d1, d2] => { results := [.lit (.bool false)], args := [d1, d2] }
  | _ => none }
def AlarmHysteresisWrongFalsely : Prop := alarmHysteresisRow.holds Try.pinned (OpenSpec.ofChange alarmHysteresisWrong)

/-- 'timesynclaw49.AlarmRaises': WHATEVER THE INPUT: true; the input reads as it did. -/
def alarmRaisesSpec : ChangeSpec := { name := "alarmRaises", fn := fun _ => fun
  | [d1, d2] => { results := [.lit (.bool true)], args := [d1, d2] }
  | _ => none }
def alarmRaisesRow : OpenClaim := { program := "ytelknkpgmachlaa", sum := "5a18cc9e00c76b42d30f3036d8493730154fe45eff52fec2009bb37b70bd3e4f", func := "timesync/timesynclaw49.AlarmRaises", spec := "alarmRaises", unfollowed := true, recurses := true, apart := false }
def AlarmRaisesSaid : Prop := alarmRaisesRow.holds Try.pinned (OpenSpec.ofChange alarmRaisesSpec)

/-- ITS FALSE NEIGHBOUR: 'it returns false'. Refute it at one input. -/
def alarmRaisesWrong : ChangeSpec := { name := "alarmRaises", fn := fun _ => fun
  | [d1, d2] => { results := [.lit (.bool false)], args := [d1, d2] }
  | _ => none }
def AlarmRaisesWrongFalsely : Prop := alarmRaisesRow.holds Try.pinned (OpenSpec.ofChange alarmRaisesWrong)

/-- 'timesynclaw49.AlarmSilence': WHATEVER THE INPUT: true; the input reads as it did. -/
def alarmSilenceSpec : ChangeSpec := { name := "alarmSilence", fn := fun _ => fun
  | [d1, d2] => { results := [.lit (.bool true)], args := [d1, d2] }
  | _ => none }
def alarmSilenceRow : OpenClaim := { program := "ytelknkpgmachlaa", sum := "5a18cc9e00c76b42d30f3036d8493730154fe45eff52fec2009bb37b70bd3e4f", func := "timesync/timesynclaw49.AlarmSilence", spec := "alarmSilence", unfollowed := true, recurses := true, apart := false }
def AlarmSilenceSaid : Prop := alarmSilenceRow.holds Try.pinned (OpenSpec.ofChange alarmSilenceSpec)

/-- ITS FALSE NEIGHBOUR: 'it returns false'. Refute it at one input. -/
def alarmSilenceWrong : ChangeSpec := { name := "alarmSilence", fn := fun _ => fun
  | [d1, d2] => { results := [.lit (.bool false)], args := [d1, d2] }
  | _ => none }
def AlarmSilenceWrongFalsely : Prop := alarmSilenceRow.holds Try.pinned (OpenSpec.ofChange alarmSilenceWrong)

/-- 'timesynclaw49.AlarmNobody': WHATEVER THE INPUT: true; the input reads as it did. -/
def alarmNobodySpec : ChangeSpec := { name := "alarmNobody", fn := fun _ => fun
  | [d1, d2] => { results := [.lit (.bool true)], args := [d1, d2] }
  | _ => none }
def alarmNobodyRow : OpenClaim := { program := "ytelknkpgmachlaa", sum := "5a18cc9e00c76b42d30f3036d8493730154fe45eff52fec2009bb37b70bd3e4f", func := "timesync/timesynclaw49.AlarmNobody", spec := "alarmNobody", unfollowed := true, recurses := true, apart := false }
def AlarmNobodySaid : Prop := alarmNobodyRow.holds Try.pinned (OpenSpec.ofChange alarmNobodySpec)

/-- ITS FALSE NEIGHBOUR: 'it returns false'. Refute it at one input. -/
def alarmNobodyWrong : ChangeSpec := { name := "alarmNobody", fn := fun _ => fun
  | [d1, d2] => { results := [.lit (.bool false)], args := [d1, d2] }
  | _ => none }
def AlarmNobodyWrongFalsely : Prop := alarmNobodyRow.holds Try.pinned (OpenSpec.ofChange alarmNobodyWrong)

/- THE SECOND FORM. 'bulk': how many values and letters a reading holds, each counted each time it is reached (what is shared counts as often as it is met; a slice's spare places count too). A statement '..UptoSaid' is the law's where the arguments, and the package variables that the reading takes, are together of bulk at most 1048576: NARROWER than '..Said'. Prove '..Said' where nothing that the law and all that it calls make is longer than what came in: it says more and counts as full. Else prove '..UptoSaid'. A law counts once. -/
mutual
def uptoBulk {H : Type} : DataW H → Nat
  | .lit (.string bytes) => bytes.length + 1
  | .lit _ => 1
  | .nil => 1
  | .ptr d => uptoBulk d + 1
  | .slice elems spare => uptoBulkAll elems + uptoBulkAll spare + 1
  | .agg parts => uptoBulkAll parts + 1
  | .iface _ d => uptoBulk d + 1
  | .map entries => uptoBulkEntries entries + 1
  | .held _ => 1
def uptoBulkAll {H : Type} : List (DataW H) → Nat
  | [] => 0
  | d :: r => uptoBulk d + uptoBulkAll r
def uptoBulkEntries {H : Type} : List (Lit × DataW H) → Nat
  | [] => 0
  | x :: r => uptoBulkEntry x + uptoBulkEntries r
def uptoBulkEntry {H : Type} : Lit × DataW H → Nat
  | (.string bytes, d) => bytes.length + uptoBulk d + 1
  | (_, d) => uptoBulk d + 1
 end
def uptoSmall : (H : Type) → List (DataW H) → Bool := fun _ ds => decide (uptoBulkAll ds ≤ 1048576)
def OpenSpec.upto (s : _root_.Go.ChangeSpec) : _root_.Go.OpenSpec := { _root_.Go.OpenSpec.ofChange s with cond := some uptoSmall }

/-- 'timesynclaw49.AlarmChecks', WHERE WHAT IT READS IS OF BULK AT MOST 1048576: true; the input reads as it did. -/
def alarmChecksUptoRow : OpenClaim := { program := "ytelknkpgmachlaa", sum := "5a18cc9e00c76b42d30f3036d8493730154fe45eff52fec2009bb37b70bd3e4f", func := "timesync/timesynclaw49.AlarmChecks", spec := "alarmChecks", unfollowed := true, recurses := true, apart := false, narrowed := true }
def AlarmChecksUptoSaid : Prop := alarmChecksUptoRow.holds Try.pinned (OpenSpec.upto alarmChecksSpec)

/-- 'timesynclaw49.AlarmFeeds', WHERE WHAT IT READS IS OF BULK AT MOST 1048576: true; the input reads as it did. -/
def alarmFeedsUptoRow : OpenClaim := { program := "ytelknkpgmachlaa", sum := "5a18cc9e00c76b42d30f3036d8493730154fe45eff52fec2009bb37b70bd3e4f", func := "timesync/timesynclaw49.AlarmFeeds", spec := "alarmFeeds", unfollowed := true, recurses := true, apart := false, narrowed := true }
def AlarmFeedsUptoSaid : Prop := alarmFeedsUptoRow.holds Try.pinned (OpenSpec.upto alarmFeedsSpec)

/-- 'timesynclaw49.AlarmAlternates', WHERE WHAT IT READS IS OF BULK AT MOST 1048576: true; the input reads as it did. -/
def alarmAlternatesUptoRow : OpenClaim := { program := "ytelknkpgmachlaa", sum := "5a18cc9e00c76b42d30f3036d8493730154fe45eff52fec2009bb37b70bd3e4f", func := "timesync/timesynclaw49.AlarmAlternates", spec := "alarmAlternates", unfollowed := true, recurses := true, apart := false, narrowed := true }
def AlarmAlternatesUptoSaid : Prop := alarmAlternatesUptoRow.holds Try.pinned (OpenSpec.upto alarmAlternatesSpec)

/-- 'timesynclaw49.AlarmHysteresis', WHERE WHAT IT READS IS OF BULK AT MOST 1048576: true; the input reads as it did. -/
def alarmHysteresisUptoRow : OpenClaim := { program := "ytelknkpgmachlaa", sum := "5a18cc9e00c76b42d30f3036d8493730154fe45eff52fec2009bb37b70bd3e4f", func := "timesync/timesynclaw49.AlarmHysteresis", spec := "alarmHysteresis", unfollowed := true, recurses := true, apart := false, narrowed := true }
def AlarmHysteresisUptoSaid : Prop := alarmHysteresisUptoRow.holds Try.pinned (OpenSpec.upto alarmHysteresisSpec)

/-- 'timesynclaw49.AlarmRaises', WHERE WHAT IT READS IS OF BULK AT MOST 1048576: true; the input reads as it did. -/
def alarmRaisesUptoRow : OpenClaim := { program := "ytelknkpgmachlaa", sum := "5a18cc9e00c76b42d30f3036d8493730154fe45eff52fec2009bb37b70bd3e4f", func := "timesync/timesynclaw49.AlarmRaises", spec := "alarmRaises", unfollowed := true, recurses := true, apart := false, narrowed := true }
def AlarmRaisesUptoSaid : Prop := alarmRaisesUptoRow.holds Try.pinned (OpenSpec.upto alarmRaisesSpec)

/-- 'timesynclaw49.AlarmSilence', WHERE WHAT IT READS IS OF BULK AT MOST 1048576: true; the input reads as it did. -/
def alarmSilenceUptoRow : OpenClaim := { program := "ytelknkpgmachlaa", sum := "5a18cc9e00c76b42d30f3036d8493730154fe45eff52fec2009bb37b70bd3e4f", func := "timesync/timesynclaw49.AlarmSilence", spec := "alarmSilence", unfollowed := true, recurses := true, apart := false, narrowed := true }
def AlarmSilenceUptoSaid : Prop := alarmSilenceUptoRow.holds Try.pinned (OpenSpec.upto alarmSilenceSpec)

/-- 'timesynclaw49.AlarmNobody', WHERE WHAT IT READS IS OF BULK AT MOST 1048576: true; the input reads as it did. -/
def alarmNobodyUptoRow : OpenClaim := { program := "ytelknkpgmachlaa", sum := "5a18cc9e00c76b42d30f3036d8493730154fe45eff52fec2009bb37b70bd3e4f", func := "timesync/timesynclaw49.AlarmNobody", spec := "alarmNobody", unfollowed := true, recurses := true, apart := false, narrowed := true }
def AlarmNobodyUptoSaid : Prop := alarmNobodyUptoRow.holds Try.pinned (OpenSpec.upto alarmNobodySpec)

end Rows
end Go.Proofs.Ytelknkpgmachlaa
