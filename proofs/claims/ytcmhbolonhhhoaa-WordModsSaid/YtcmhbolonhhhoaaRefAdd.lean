/- The walk of munimentsref1.add. -/
import Derived.Test.YtcmhbolonhhhoaaRefSub
namespace Go.Mun
open Go Go.RowKit Go.Proofs

def carD (A B k : Nat) : Nat := (A % 2 ^ (16 * k) + B % 2 ^ (16 * k)) / 2 ^ (16 * k)
theorem carD_zero (A B : Nat) : carD A B 0 = 0 := by unfold carD; rw [Nat.mul_zero, Nat.pow_zero, Nat.mod_one, Nat.mod_one]
theorem carD_le (A B k : Nat) : carD A B k ≤ 1 := by
  have h1 : A % 2 ^ (16 * k) < 2 ^ (16 * k) := mod_step
  have h2 : B % 2 ^ (16 * k) < 2 ^ (16 * k) := mod_step
  unfold carD
  generalize A % 2 ^ (16 * k) = u at *
  generalize B % 2 ^ (16 * k) = v at *
  have : (u + v) / 2 ^ (16 * k) < 2 := (Nat.div_lt_iff_lt_mul (by omega)).2 (by omega)
  omega
theorem carD_step (A B k : Nat) : (carD A B k + dig A k + dig B k) % 65536 = dig (A + B) k ∧ (carD A B k + dig A k + dig B k) / 65536 = carD A B (k + 1) := by
  have ea := dig_split A k
  have eb := dig_split B k
  have hP : 2 ^ (16 * (k + 1)) = 2 ^ (16 * k) * 65536 := by rw [show (65536 : Nat) = 2 ^ 16 from rfl, ← Nat.pow_add]; congr 1
  have hp : 0 < 2 ^ (16 * k) := Nat.pow_pos (by decide)
  have h1 : (A % 2 ^ (16 * (k + 1)) + B % 2 ^ (16 * (k + 1))) / 2 ^ (16 * k) = carD A B k + dig A k + dig B k := by
    unfold carD
    rw [ea, eb, show ∀ u x v y : Nat, u + x + (v + y) = u + v + (x + y) from by intros; omega, ← Nat.add_mul, Nat.add_mul_div_right _ _ hp]
    omega
  refine ⟨?_, ?_⟩
  · rw [← h1]
    have h2 : A + B = A % 2 ^ (16 * (k + 1)) + B % 2 ^ (16 * (k + 1)) + 2 ^ (16 * k) * (65536 * (A / 2 ^ (16 * (k + 1)) + B / 2 ^ (16 * (k + 1)))) := by
      have g1 := Nat.mod_add_div A (2 ^ (16 * (k + 1)))
      have g2 := Nat.mod_add_div B (2 ^ (16 * (k + 1)))
      generalize 2 ^ (16 * (k + 1)) = P at *
      rw [← Nat.mul_assoc, ← hP, Nat.mul_add]
      omega
    unfold dig
    rw [h2, Nat.add_mul_div_left _ _ hp, Nat.add_mul_mod_self_left]
  · rw [← h1]
    unfold carD
    rw [hP, Nat.div_div_eq_div_mul]
theorem carD_end {A B m : Nat} (hA : A < 2 ^ (16 * m)) (hB : B < 2 ^ (16 * m)) : carD A B m = dig (A + B) m := by
  have h := carD_le A B m
  unfold carD at *
  rw [Nat.mod_eq_of_lt hA, Nat.mod_eq_of_lt hB] at *
  unfold dig
  exact (Nat.mod_eq_of_lt (by omega)).symm
/-- digits as a list of values -/
def dl (k N : Nat) : List Value := (dtab k N).toList
theorem dl_length (k N : Nat) : (dl k N).length = k := by unfold dl; rw [Array.length_toList, dtab_size]
theorem dl_snoc (k N : Nat) : dl k N ++ [.int .i64 (dig N k : Nat)] = dl (k + 1) N := by
  unfold dl dtab
  rw [tab_list, tab_list, List.range_succ, List.map_append]
  rfl
theorem and65535 (m : Int) : bits .and .i64 m 65535 = m % 65536 := by
  have := i64_and_mask m 16 65535 (by decide) (by decide)
  rw [show ((65535 : Nat) : Int) = 65535 from rfl] at this
  rw [this]
  omega

set_option maxRecDepth 100000 in
set_option maxHeartbeats 4000000 in
theorem refadd_any (ad bd : Addr) (m ca cb A B : Nat) (w : World) (hA : A < 2 ^ (16 * m)) (hB : B < 2 ^ (16 * m)) (h1 : 1 ≤ m) (hm : m ≤ 1000) (ra : Rd w (some ad) (dtab m A).toList) (rb : Rd w (some bd) (dtab m B).toList) :
    Calls Try.prog 54 #[.slice (some ad) m ca, .slice (some bd) m cb] w fun e w' => ∃ g c, e = .returned (.slice (some ⟨g, 0, none⟩) (m + 1) c) ∧ w.heap.size ≤ g ∧ Rd w' (some ⟨g, 0, none⟩) (dtab (m + 1) (A + B)).toList ∧ Below w.heap.size w w' := by
  have hI := intsTy
  have oa0 : ad.block < w.heap.size := rd_lt ra (by rw [Array.length_toList, dtab_size]; omega)
  have ob0 : bd.block < w.heap.size := rd_lt rb (by rw [Array.length_toList, dtab_size]; omega)
  have HCA := Lib.hid (fun i (h : i < m) => @dtab_get m A i h)
  have HCB := Lib.hid (fun i (h : i < m) => @dtab_get m B i h)
  have HLA := Lib.hid (dig_lt A)
  have HLB := Lib.hid (dig_lt B)
  have HC0 := Lib.hid (carD_zero A B)
  have HCL := Lib.hid (carD_le A B)
  have HST := Lib.hid (carD_step A B)
  have HEN := Lib.hid (carD_end hA hB)
  have HSN := Lib.hid (fun k => dl_snoc k (A + B))
  have hm' : (m : Int) ≤ 1000 := by omega
  have h1' : (1 : Int) ≤ (m : Int) := by omega
  clear hA hB
  generalize dtab m A = da at *
  generalize dtab m B = db at *
  go_enter Try.func54, Try.ntmps54
  go_wp2
  go_loopw [5, 6, 7] (fun v c i wr => ∃ k : Nat, k ≤ m ∧ i = .int .i64 k ∧ c = .int .i64 (carD A B k : Nat) ∧ wr.ownsRow w.heap.size 3 1 v k (dl k (A + B)) ∧ Rd wr (some ad) da.toList ∧ Rd wr (some bd) db.toList ∧ Below w.heap.size w wr) (fun _ _ i _ => m - (intOf i).toNat)
  case atStart => exact ⟨0, by omega, rfl, by rw [HC0.out]; rfl, World.ownsRow_nil _ _ _ _, ra, rb, Below.refl _ _⟩
  case round =>
    clear ra rb
    obtain ⟨k, hk, rfl, rfl, ho, ya, yb, hB⟩ := hrel
    have oa : ad.block < w.heap.size := oa0
    have ob : bd.block < w.heap.size := ob0
    by_cases hlt : k < m
    · have k0 : (0 : Int) ≤ (k : Int) := by omega
      have k1 : (k : Int) < (m : Int) := by omega
      have hca := rd_at ya (HCA.out k hlt)
      have hcb := rd_at yb (HCB.out k hlt)
      have hla := HLA.out k
      have hlb := HLB.out k
      have hc := HCL.out k
      have HS1 := Lib.hid (HST.out k).1
      have HS2 := Lib.hid (HST.out k).2
      have HSNk := Lib.hid (HSN.out k)
      generalize dig A k = x at *
      generalize dig B k = y at *
      generalize carD A B k = c at *
      have HA := Lib.hid (and65535 ((c : Int) + (x : Int) + (y : Int)))
      have HB := Lib.hid (show ((c : Int) + (x : Int) + (y : Int)) % 65536 = ((dig (A + B) k : Nat) : Int) from by rw [← HS1.out]; omega)
      have HD := Lib.hid (show ((c : Int) + (x : Int) + (y : Int)) / 65536 = ((carD A B (k + 1) : Nat) : Int) from by rw [← HS2.out]; omega)
      go_wp2_with (first
        | (at_builtin; refine wpList_append_rd _ rfl (.tmp 40) (.tmp 43) _ rfl w.heap.size _ _ 1 8 hI _ _ _ rfl (ho.alloc _) (some ⟨wr.heap.size, 0, none⟩) 1 1 [.int .i64 (dig (A + B) k : Nat)] rfl rfl ?_ (by intro u hu; simp at hu; subst hu; rfl) (by unfold maxLen; omega) (by omega) (by simp; have := hB.size; omega) ?_; (rw [HA.out, HB.out]; exact Rd.new _ #[_] _ _); intro v2 w2 ho2 hg2 hat2)
        | fail)
      rw [HSNk.out] at ho2
      have hoa := ho.alloc (.cells #[.int .i64 (bits BinOp.and IntKind.i64 ((c : Int) + (x : Int) + (y : Int)) 65535)] 3)
      have hBa := hB.alloc hB.size (.cells #[.int .i64 (bits BinOp.and IntKind.i64 ((c : Int) + (x : Int) + (y : Int)) 65535)] 3)
      have hsa := hBa.size
      have hB2 := below_own hBa hoa (Nat.le_refl _) hg2 hBa.size
      have ya2 := (ya.alloc (.cells #[.int .i64 (bits BinOp.and IntKind.i64 ((c : Int) + (x : Int) + (y : Int)) 65535)] 3)).grown hg2 (fun a e => by injection e with e; subst e; exact own_far (by omega) hoa (by omega))
      have yb2 := (yb.alloc (.cells #[.int .i64 (bits BinOp.and IntKind.i64 ((c : Int) + (x : Int) + (y : Int)) 65535)] 3)).grown hg2 (fun a e => by injection e with e; subst e; exact own_far (by omega) hoa (by omega))
      go_roundw
      case rel => exact ⟨k + 1, by omega, by go_num, congrArg (Value.int .i64) HD.out, ho2, ya2, yb2, hB2⟩
      case measure => (simp [intOf]; try omega)
    · obtain rfl : k = m := by omega
      have d1 : decide (k < k) = false := by simp
      have HS := Lib.hid (HSN.out k)
      rw [← HEN.out] at HS
      generalize carD A B k = c at *
      go_wp2_with (first
        | (at_builtin; refine wpList_append_rd _ rfl (.tmp 47) (.tmp 49) _ rfl w.heap.size _ _ 1 8 hI _ _ _ rfl (ho.alloc _) (some ⟨wr.heap.size, 0, none⟩) 1 1 [.int .i64 (c : Nat)] rfl rfl (Rd.new _ #[_] _ _) (by intro u hu; simp at hu; subst hu; rfl) (by unfold maxLen; omega) (by omega) (by simp; have := hB.size; omega) ?_; intro v2 w2 ho2 hg2 hat2)
        | fail)
      rw [HS.out] at ho2
      have hBa := hB.alloc hB.size (.cells #[.int .i64 (c : Int)] 3)
      have hB2 := below_own hBa (ho.alloc _) (Nat.le_refl _) hg2 hBa.size
      obtain ⟨g, cap, hv, hgb, _⟩ := ho2.form (by omega)
      subst hv
      go_ret
      exact ⟨g, cap, rfl, hgb, Rd.own ho2, hB2⟩
end Go.Mun
