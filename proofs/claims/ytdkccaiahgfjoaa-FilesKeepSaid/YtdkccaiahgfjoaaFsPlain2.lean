/- Files, plainly: what is found behind a loss of power that cuts what was not synced. -/
import Derived.Test.YtdkccaiahgfjoaaFsIn
namespace Go.Mun
open Go Go.RowKit

abbrev cA : Ky := [97]
noncomputable def cutM (a b : List UInt8) (cut : Int) : FSs := planM (appM (dirM (syncM (appM newM cA a) cA)) cA b) 0 cut []
theorem crash_fs {M : FSs} {i : Nat} (h : hasId (left M) i) : (crashM M).fs i = cutF M.cut (M.fs i) := if_pos h
theorem cutM_sync (a b : List UInt8) (cut : Int) : syncM (cutM a b cut) cA = crashM (cutM a b cut) := by
  unfold syncM
  rw [thenM_off (M := cutM a b cut) (ok := isB (cutM a b cut) cA) rfl rfl]
  exact if_pos rfl
theorem cutM_fs (a b : List UInt8) (cut : Int) : (cutM a b cut).fs 0 = ⟨([] ++ a) ++ b, ([] ++ a).length⟩ := rfl
theorem cutM_read (a b : List UInt8) (cut : Int) (hc : 0 ≤ cut) : readM (startM (crashM (cutM a b cut))) cA = a ++ b.take (cut.toNat % (b.length + 1)) := by
  have h1 : readM (startM (crashM (cutM a b cut))) cA = ((crashM (cutM a b cut)).fs 0).b := rfl
  rw [h1, crash_fs ⟨(cA, 0), List.mem_singleton.2 rfl, rfl⟩, cutM_fs]
  show (([] ++ a) ++ b).take (cutAt cut ⟨([] ++ a) ++ b, ([] ++ a).length⟩) = _
  unfold cutAt
  rw [if_pos hc]
  simp only [List.nil_append, List.length_append]
  rw [show a.length + b.length - a.length + 1 = b.length + 1 by omega, List.take_append]
  simp only [Nat.add_sub_cancel_left]
  rw [List.take_of_length_le (by omega)]
end Go.Mun
