/- The walk of munimentsref1.sub. -/
import Derived.Test.YtcmhbolonhhhoaaRefCmp
namespace Go.Mun
open Go Go.RowKit Go.Proofs

def difD (A B k : Nat) : Nat := (A % 2 ^ (16 * k) + 2 ^ (16 * k) - B % 2 ^ (16 * k)) % 2 ^ (16 * k)
def borD (A B k : Nat) : Nat := if A % 2 ^ (16 * k) < B % 2 ^ (16 * k) then 1 else 0
theorem difD_lt (A B k : Nat) : difD A B k < 2 ^ (16 * k) := Nat.mod_lt _ (Nat.pow_pos (by decide))
theorem borD_le (A B k : Nat) : borD A B k ≤ 1 := by unfold borD; split <;> omega
theorem difD_zero (A B : Nat) : difD A B 0 = 0 := by unfold difD; rw [Nat.mul_zero, Nat.pow_zero, Nat.mod_one]
theorem borD_zero (A B : Nat) : borD A B 0 = 0 := by unfold borD; rw [Nat.mul_zero, Nat.pow_zero, Nat.mod_one, Nat.mod_one]; rfl
theorem difD_val (A B k : Nat) : difD A B k + B % 2 ^ (16 * k) = A % 2 ^ (16 * k) + borD A B k * 2 ^ (16 * k) := by
  have h1 : A % 2 ^ (16 * k) < 2 ^ (16 * k) := mod_step
  have h2 : B % 2 ^ (16 * k) < 2 ^ (16 * k) := mod_step
  unfold difD borD
  generalize A % 2 ^ (16 * k) = u at *
  generalize B % 2 ^ (16 * k) = v at *
  generalize 2 ^ (16 * k) = P at *
  by_cases c : u < v
  · rw [if_pos c, Nat.mod_eq_of_lt (by omega)]
    omega
  · rw [if_neg c, show u + P - v = (u - v) + P from by omega, Nat.add_mod_right, Nat.mod_eq_of_lt (by omega)]
    omega
theorem difD_of {A B k d c : Nat} (hd : d < 2 ^ (16 * k)) (h : d + B % 2 ^ (16 * k) = A % 2 ^ (16 * k) + c * 2 ^ (16 * k)) (hc : c ≤ 1) : difD A B k = d ∧ borD A B k = c := by
  have h0 := difD_val A B k
  have h1 : A % 2 ^ (16 * k) < 2 ^ (16 * k) := mod_step
  have h2 : B % 2 ^ (16 * k) < 2 ^ (16 * k) := mod_step
  have h3 := difD_lt A B k
  have h4 := borD_le A B k
  generalize difD A B k = d' at *
  generalize borD A B k = c' at *
  generalize A % 2 ^ (16 * k) = u at *
  generalize B % 2 ^ (16 * k) = v at *
  generalize 2 ^ (16 * k) = P at *
  have hc2 : c = 0 ∨ c = 1 := by omega
  have hc3 : c' = 0 ∨ c' = 1 := by omega
  rcases hc2 with rfl | rfl <;> rcases hc3 with rfl | rfl <;> constructor <;> omega
theorem difD_step (A B k : Nat) :
    (dig A k < borD A B k + dig B k → difD A B (k + 1) = difD A B k + (dig A k + 65536 - borD A B k - dig B k) * 2 ^ (16 * k) ∧ borD A B (k + 1) = 1) ∧
    (borD A B k + dig B k ≤ dig A k → difD A B (k + 1) = difD A B k + (dig A k - borD A B k - dig B k) * 2 ^ (16 * k) ∧ borD A B (k + 1) = 0) := by
  have h0 := difD_val A B k
  have h3 := difD_lt A B k
  have h4 := borD_le A B k
  have ea := dig_split A k
  have eb := dig_split B k
  have ha := dig_lt A k
  have hb := dig_lt B k
  have hP : 2 ^ (16 * (k + 1)) = 65536 * 2 ^ (16 * k) := by rw [show (65536 : Nat) = 2 ^ 16 from rfl, ← Nat.pow_add]; congr 1; omega
  have key : ∀ x e, x < 65536 → e ≤ 1 → x + borD A B k + dig B k = dig A k + e * 65536 → difD A B (k + 1) = difD A B k + x * 2 ^ (16 * k) ∧ borD A B (k + 1) = e := by
    intro x e hx he hxe
    refine difD_of ?_ ?_ he
    · rw [hP]
      have : (x + 1) * 2 ^ (16 * k) ≤ 65536 * 2 ^ (16 * k) := Nat.mul_le_mul_right _ hx
      rw [Nat.add_mul] at this
      omega
    · rw [ea, eb, hP]
      have h5 := congrArg (· * 2 ^ (16 * k)) hxe
      simp only [Nat.add_mul] at h5
      rw [Nat.mul_assoc] at h5
      generalize e * (65536 * 2 ^ (16 * k)) = z at *
      omega
  refine ⟨fun h => key _ 1 (by omega) (by omega) (by omega), fun h => key _ 0 (by omega) (by omega) (by omega)⟩

set_option maxRecDepth 100000 in
set_option maxHeartbeats 4000000 in
theorem refsub_any (ad bd : Addr) (m n ca cb A B : Nat) (w : World) (hA : A < 2 ^ (16 * m)) (hB : B < 2 ^ (16 * n)) (hnm : n ≤ m) (h1 : 1 ≤ n) (hm : m ≤ 1000) (ra : Rd w (some ad) (dtab m A).toList) (rb : Rd w (some bd) (dtab n B).toList) :
    Calls Try.prog 76 #[.slice (some ad) m ca, .slice (some bd) n cb] w fun e w' => ∃ g, e = .returned (.slice (some ⟨g, 0, none⟩) m m) ∧ w.heap.size ≤ g ∧ Blk w' g 3 (dtab m ((A + 2 ^ (16 * m) - B) % 2 ^ (16 * m))) ∧ Below w.heap.size w w' := by
  have hI := intsTy
  have oa : ad.block < w.heap.size := rd_lt ra (by rw [Array.length_toList, dtab_size]; omega)
  have ob : bd.block < w.heap.size := rd_lt rb (by rw [Array.length_toList, dtab_size]; omega)
  have HT := Lib.hid (fun q (h : n ≤ q) => dig_top hB h)
  have HCA := Lib.hid (fun i (h : i < m) => @dtab_get m A i h)
  have HCB := Lib.hid (fun i (h : i < n) => @dtab_get n B i h)
  have HLA := Lib.hid (dig_lt A)
  have HLB := Lib.hid (dig_lt B)
  have HS := Lib.hid dtab_size
  have H0 := Lib.hid ((rep_dtab m).trans (congrArg (dtab m) (difD_zero A B).symm))
  have HB0 := Lib.hid (borD_zero A B)
  have HE := Lib.hid (show difD A B m = (A + 2 ^ (16 * m) - B) % 2 ^ (16 * m) from by
    unfold difD
    rw [Nat.mod_eq_of_lt hA, Nat.mod_eq_of_lt (Nat.lt_of_lt_of_le hB (Nat.pow_le_pow_right (by decide) (by omega)))])
  have HST := Lib.hid (difD_step A B)
  have HDS := Lib.hid (fun k x (hk : k < m) (hx : x < 65536) => dtab_step (m := m) (k := k) (difD_lt A B k) hx hk)
  have hm' : (m : Int) ≤ 1000 := by omega
  clear hA hB
  generalize dtab m A = da at *
  generalize dtab n B = db at *
  go_enter Try.func76, Try.ntmps76
  go_wp2_with (first
    | ((with_reducible refine gd_make ?_); refine wpList_make_ints rfl _ _ 48 rfl hI rfl (n := m) rfl rfl (by omega) ?_; intro w2 hx2 hb2 hl2)
    | fail)
  rw [H0.out] at hx2
  have ya := ra.ext hb2
  have yb := rb.ext hb2
  clear ra rb hl2
  go_loopw [7, 6] (fun i c wr => ∃ k : Nat, k ≤ m ∧ i = .int .i64 k ∧ c = .int .i64 (borD A B k : Nat) ∧ Blk wr w.heap.size 3 (dtab m (difD A B k)) ∧ Rd wr (some ad) da.toList ∧ Rd wr (some bd) db.toList ∧ Below w.heap.size w wr) (fun i _ _ => m - (intOf i).toNat)
  case atStart => exact ⟨0, by omega, rfl, by rw [HB0.out]; rfl, hx2, ya, yb, hb2⟩
  case round =>
    clear hx2 ya yb hb2
    obtain ⟨k, hk, rfl, rfl, hx, ya, yb, hB⟩ := hrel
    by_cases hlt : k < m
    · have k0 : (0 : Int) ≤ (k : Int) := by omega
      have k1 : (k : Int) < (m : Int) := by omega
      have hca := rd_at ya (HCA.out k hlt)
      have hla := HLA.out k
      have hlb := HLB.out k
      have hc := borD_le A B k
      have HS1 := Lib.hid (HST.out k).1
      have HS2 := Lib.hid (HST.out k).2
      have HSk := Lib.hid (HS.out m (difD A B k))
      have HDk := Lib.hid (fun x hx => HDS.out k x hlt hx)
      have fin : ∀ (x e : Nat) (wz : World), x < 65536 → difD A B (k + 1) = difD A B k + x * 2 ^ (16 * k) ∧ borD A B (k + 1) = e → Blk wz w.heap.size 3 ((dtab m (difD A B k)).setIfInBounds k (.int .i64 (x : Nat))) → Blk wz w.heap.size 3 (dtab m (difD A B (k + 1))) := fun x e wz hx he hb => by
        rw [HDk.out x hx, ← he.1] at hb
        exact hb
      have FIN := Lib.hid fin
      clear fin
      by_cases hn : k < n
      · have hcb := rd_at yb (HCB.out k hn)
        have hn2 : (k : Int) < (n : Int) := by omega
        generalize dig A k = x at *
        generalize dig B k = y at *
        generalize borD A B k = c at *
        by_cases hlow : x < c + y
        · have HR := Lib.hid (HS1.out hlow)
          have d1 : (x : Int) - (c : Int) - (y : Int) < 0 := by omega
          have HV := Lib.hid (show (x : Int) - (c : Int) - (y : Int) + 65536 = ((x + 65536 - c - y : Nat) : Int) from by omega)
          have hv : x + 65536 - c - y < 65536 := by omega
          clear hlow
          go_wp2_with (first
            | ((with_reducible refine gd_store ?_); refine wpList_store_cell rfl 3 (.tmp 41) (.tmp 40) rfl hx (i := k) (v := .int .i64 (x + 65536 - c - y : Nat)) (by rw [HSk.out]; exact hlt) (by kernel_rfl) rfl rfl (congrArg (Value.int .i64) HV.out) ?_; intro w5 hx5 hg5)
            | fail)
          have hx6 := FIN.out _ _ _ hv HR.out hx5
          have ya' := rd_grown ya hg5 (by omega)
          have yb' := rd_grown yb hg5 (by omega)
          have hB5 := below_blk hB hB.size hg5 (by omega)
          go_roundw
          case rel => exact ⟨k + 1, by omega, by go_num, by rw [HR.out.2]; rfl, hx6, ya', yb', hB5⟩
          case measure => (simp [intOf]; try omega)
        · have HR := Lib.hid (HS2.out (by omega))
          have d1 : decide ((x : Int) - (c : Int) - (y : Int) < 0) = false := decide_eq_false (by omega)
          have HV := Lib.hid (show (x : Int) - (c : Int) - (y : Int) = ((x - c - y : Nat) : Int) from by omega)
          have hv : x - c - y < 65536 := by omega
          have hge : (0 : Int) ≤ (x : Int) - (c : Int) - (y : Int) := by omega
          clear hlow
          go_wp2_with (first
            | ((with_reducible refine gd_store ?_); refine wpList_store_cell rfl 3 (.tmp 41) (.tmp 40) rfl hx (i := k) (v := .int .i64 (x - c - y : Nat)) (by rw [HSk.out]; exact hlt) (by kernel_rfl) rfl rfl (congrArg (Value.int .i64) HV.out) ?_; intro w5 hx5 hg5)
            | fail)
          have hx6 := FIN.out _ _ _ hv HR.out hx5
          have ya' := rd_grown ya hg5 (by omega)
          have yb' := rd_grown yb hg5 (by omega)
          have hB5 := below_blk hB hB.size hg5 (by omega)
          go_roundw
          case rel => exact ⟨k + 1, by omega, by go_num, by rw [HR.out.2]; rfl, hx6, ya', yb', hB5⟩
          case measure => (simp [intOf]; try omega)
      · have hn2 : decide (k < n) = false := decide_eq_false hn
        have hy := HT.out k (by omega)
        rw [hy] at HS1 HS2
        clear hy hlb
        generalize dig A k = x at *
        generalize borD A B k = c at *
        by_cases hlow : x < c
        · have HR := Lib.hid (HS1.out hlow)
          have d1 : (x : Int) - (c : Int) < 0 := by omega
          have HV := Lib.hid (show (x : Int) - (c : Int) + 65536 = ((x + 65536 - c - 0 : Nat) : Int) from by omega)
          have hv : x + 65536 - c - 0 < 65536 := by omega
          clear hlow
          go_wp2_with (first
            | ((with_reducible refine gd_store ?_); refine wpList_store_cell rfl 3 (.tmp 41) (.tmp 40) rfl hx (i := k) (v := .int .i64 (x + 65536 - c - 0 : Nat)) (by rw [HSk.out]; exact hlt) (by kernel_rfl) rfl rfl (congrArg (Value.int .i64) HV.out) ?_; intro w5 hx5 hg5)
            | fail)
          have hx6 := FIN.out _ _ _ hv HR.out hx5
          have ya' := rd_grown ya hg5 (by omega)
          have yb' := rd_grown yb hg5 (by omega)
          have hB5 := below_blk hB hB.size hg5 (by omega)
          go_roundw
          case rel => exact ⟨k + 1, by omega, by go_num, by rw [HR.out.2]; rfl, hx6, ya', yb', hB5⟩
          case measure => (simp [intOf]; try omega)
        · have HR := Lib.hid (HS2.out (by omega))
          have d1 : decide ((x : Int) - (c : Int) < 0) = false := decide_eq_false (by omega)
          have HV := Lib.hid (show (x : Int) - (c : Int) = ((x - c - 0 : Nat) : Int) from by omega)
          have hv : x - c - 0 < 65536 := by omega
          have hge : (0 : Int) ≤ (x : Int) - (c : Int) := by omega
          clear hlow
          go_wp2_with (first
            | ((with_reducible refine gd_store ?_); refine wpList_store_cell rfl 3 (.tmp 41) (.tmp 40) rfl hx (i := k) (v := .int .i64 (x - c - 0 : Nat)) (by rw [HSk.out]; exact hlt) (by kernel_rfl) rfl rfl (congrArg (Value.int .i64) HV.out) ?_; intro w5 hx5 hg5)
            | fail)
          have hx6 := FIN.out _ _ _ hv HR.out hx5
          have ya' := rd_grown ya hg5 (by omega)
          have yb' := rd_grown yb hg5 (by omega)
          have hB5 := below_blk hB hB.size hg5 (by omega)
          go_roundw
          case rel => exact ⟨k + 1, by omega, by go_num, by rw [HR.out.2]; rfl, hx6, ya', yb', hB5⟩
          case measure => (simp [intOf]; try omega)
    · obtain rfl : k = m := by omega
      rw [HE.out] at hx
      have d1 : decide (k < k) = false := by simp
      go_wp2
      go_ret
      exact ⟨_, rfl, Nat.le_refl _, hx, hB⟩
end Go.Mun
