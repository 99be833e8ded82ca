/- munimentslaw20.alive answers true. -/
import Derived.Test.YtmaaejicfpfcdaaCrcWalks
import Derived.Test.YtmaaejicfpfcdaaRead
import Derived.Lib.SlBytesConst
namespace Go.Mun
open Go Go.RowKit Go.Proofs

def digits9 : List UInt8 := [49, 50, 51, 52, 53, 54, 55, 56, 57]
theorem crc_digits : crcSum [digits9].flatten = 3421780262 := by decide +kernel

set_option maxRecDepth 100000 in
set_option maxHeartbeats 400000 in
theorem alive20 (w : World) : Calls Try.prog 16 #[] w fun e w' => e = .returned (.bool true) ∧ Below w.heap.size w w' := by
  have HD : Hid (crcSum [digits9].flatten = 3421780262) := crc_digits
  have kc := fun (w : World) (C : Array Value) (n c : Nat) => Lib.run_convert_bytes_const (P := Try.prog) w 24 5 C n c Try.underlying24 Try.underlying5
  go_enter Try.func16, Try.ntmps16
  go_wp2_with fail
  refine (Sum_any _ 1 _ [digits9] [.slice (some ⟨w.heap.size, 0, none⟩) 9 9] _ rfl rfl (by omega) ?_ ?_).mono ?_
  · exact Rd.new_at (by simp) #[.slice (some ⟨w.heap.size, 0, none⟩) 9 9] _ _
  · intro i hi
    obtain rfl : i = 0 := by omega
    exact ⟨_, 9, 9, rfl, rfl, by omega, by simp [maxLen], (Rd.new w #[.int .u8 49, .int .u8 50, .int .u8 51, .int .u8 52, .int .u8 53, .int .u8 54, .int .u8 55, .int .u8 56, .int .u8 57] _ _).alloc _⟩
  · rintro e w' ⟨rfl, rfl⟩
    rw [HD.out]
    go_wp2
    go_ret
    exact ⟨rfl, ((Below.refl _ _).alloc (Nat.le_refl _) _).alloc (by simp) _⟩
end Go.Mun
