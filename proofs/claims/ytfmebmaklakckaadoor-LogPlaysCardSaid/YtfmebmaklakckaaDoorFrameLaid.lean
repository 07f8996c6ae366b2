/- What the listed variable (scribe's table) gives the walks: the table's cells. -/
import Derived.Test.YtfmebmaklakckaaDoorRows
import Derived.Test.YtfmebmaklakckaaDoorTie
import Derived.Test.YtfmebmaklakckaaDoorCrc
import Derived.Lib.LaidTab
import Derived.ProofKit
import Derived.LaidMore
import Derived.OpenShut
import Derived.Stop.Joined
import Derived.ShutString
import Derived.ChangeOld
namespace Go.Proofs.YtfmebmaklakckaaDoor
open Go Go.RowKit Go.Lw
theorem own : ownKnob Tryd.prog.godebug = none := by kernel_rfl
theorem laidOut : laidOutB Tryd.prog = true := by kernel_rfl
def laidT : List (String × DataW Unit) := [("longwire/scribe.table", Rows.laid_longwire_scribe_table)]
theorem gTable : Tryd.prog.globalNamed "longwire/scribe.table" = some 0 := by kernel_rfl
theorem tTable : (Tryd.prog.globals[0]?).map (·.type) = some 107 := by kernel_rfl
theorem door_met (os : Os) (args : Array Value) : laidMetH Tryd.prog laidT ((World.doorLaid Tryd.prog 400 os).forCall (fun _ _ => 0) ⟨#[], args, []⟩).memory :=
  laidMetH_of_parts3 (fuel := 8) (laidMet_of_run' 8 (by kernel_rfl) (by kernel_rfl)) (by kernel_rfl) (by kernel_rfl)
def tabI : List Int := tab.map Int.ofNat
theorem tab_of {W : World} (h : Lib.TabIs Tryd.prog W "longwire/scribe.table" .u32 tabI) : Tab W := by
  intro i hi
  rw [h.cell gTable i (by simpa [tabI, tab] using hi)]
  have : tabI.getD i 0 = ((tab.getD i 0 : Nat) : Int) := by revert i; decide
  rw [this]
theorem of_laid {W : World} (h : laidMetH Tryd.prog laidT W) : Tab W := by
  rw [MakeChecks.laidMetH_plain _ _ _ (by kernel_rfl)] at h
  exact tab_of (Lib.tabIs_of_head gTable tTable Tryd.underlying107 Tryd.underlying24 (by kernel_rfl) (by kernel_rfl) h)
end Go.Proofs.YtfmebmaklakckaaDoor
