/- Rows of numbers told by a function: cells, one of them set, all alike. And words' and numbers' cells by it. Over no program. -/
import Derived.Test.YtpliedimdhilcaaWordPlain
namespace Go.Mun
open Go Go.RowKit

/-- the cells f 0 .. f (m-1) -/
def tab (k : IntKind) (m : Nat) (f : Nat → Nat) : Array Value := ((List.range m).map fun i => Value.int k (f i : Int)).toArray
section
variable {k : IntKind} {m : Nat} {f g : Nat → Nat}
theorem tab_size : (tab k m f).size = m := by simp [tab]
theorem tab_get {i : Nat} (h : i < m) : (tab k m f)[i]? = some (.int k (f i : Nat)) := by simp [tab, h]
theorem tab_list : (tab k m f).toList = (List.range m).map fun i => Value.int k (f i : Int) := by simp [tab]
theorem tab_one : oneAll (tab k m f).toList = true := by
  rw [tab_list]
  generalize List.range m = l
  induction l with
  | nil => rfl
  | cons a l ih => simp only [List.map_cons, oneAll, ih, Bool.and_true]; rfl
theorem tab_congr (h : ∀ i, i < m → f i = g i) : tab k m f = tab k m g := by
  unfold tab
  congr 1
  apply List.map_congr_left
  intro i hi
  rw [h i (List.mem_range.1 hi)]
theorem tab_set {i v : Nat} (h : i < m) : (tab k m f).setIfInBounds i (.int k (v : Nat)) = tab k m (fun j => if j = i then v else f j) := by
  apply Array.ext_getElem?
  intro j
  rw [Array.getElem?_setIfInBounds, tab_size]
  by_cases hj : j < m
  · rw [tab_get hj, tab_get hj]
    by_cases e : i = j
    · rw [if_pos e, if_pos h, if_pos e.symm]
    · rw [if_neg e, if_neg (fun x => e x.symm)]
  · rw [Array.getElem?_eq_none (by rw [tab_size]; omega), Array.getElem?_eq_none (by rw [tab_size]; omega)]
    by_cases e : i = j
    · omega
    · rw [if_neg e]
theorem tab_inj (h : tab k m f = tab k m g) {i : Nat} (hi : i < m) : f i = g i := by
  have := congrArg (fun a : Array Value => a[i]?) h
  simp only [tab_get hi, Option.some.injEq, Value.int.injEq, true_and] at this
  omega
end
theorem limbsV_tab (n : Nat) : limbsV n = tab .u64 4 (limb n) := rfl
theorem bv_wbytes (n : Nat) : (bv (wbytes n)).toArray = tab .u8 32 (fun i => lowB n (31 - i)) := by
  unfold tab bv wbytes
  congr 1
  rw [List.map_map]
  apply List.map_congr_left
  intro i _
  have h := lowB_lt n (31 - i)
  simp
  omega

/-! ### a number by its limbs -/
theorem limb_split (n k : Nat) : n % 2 ^ (64 * (k + 1)) = n % 2 ^ (64 * k) + limb n k * 2 ^ (64 * k) := by
  unfold limb
  rw [show 64 * (k + 1) = 64 * k + 64 from by omega, Nat.pow_add, Nat.mod_mul, Nat.mul_comm (2 ^ (64 * k))]
theorem limb_low (n : Nat) {k j : Nat} (h : j < k) : limb (n % 2 ^ (64 * k)) j = limb n j := by
  unfold limb
  have e : (2 : Nat) ^ (64 * k) = 2 ^ (64 * j) * 2 ^ (64 * (k - j)) := by rw [← Nat.pow_add]; congr 1; omega
  rw [e, Nat.mod_mul_right_div_self, Nat.mod_mod_of_dvd]
  exact Nat.pow_dvd_pow 2 (by omega)
theorem limb_high {n k j : Nat} (hn : n < 2 ^ (64 * k)) (h : k ≤ j) : limb n j = 0 := by
  unfold limb
  rw [Nat.div_eq_of_lt (Nat.lt_of_lt_of_le hn (Nat.pow_le_pow_right (by decide) (by omega))), Nat.zero_mod]
/-- one limb more on top -/
theorem limb_top {x k y : Nat} (hx : x < 2 ^ (64 * k)) (hy : y < 2 ^ 64) (j : Nat) : limb (x + y * 2 ^ (64 * k)) j = if j = k then y else limb x j := by
  have hp : 0 < (2 : Nat) ^ (64 * k) := Nat.pow_pos (by decide)
  have hm : (x + y * 2 ^ (64 * k)) % 2 ^ (64 * k) = x := by rw [Nat.add_mul_mod_self_right, Nat.mod_eq_of_lt hx]
  rcases Nat.lt_trichotomy j k with h | h | h
  · rw [if_neg (by omega), ← limb_low _ h, hm]
  · rw [if_pos h, h]
    unfold limb
    rw [Nat.add_mul_div_right _ _ hp, Nat.div_eq_of_lt hx, Nat.zero_add, Nat.mod_eq_of_lt hy]
  · rw [if_neg (by omega), limb_high hx (by omega)]
    refine limb_high (k := k + 1) ?_ (by omega)
    rw [show 64 * (k + 1) = 64 * k + 64 from by omega, Nat.pow_add]
    have : (y + 1) * 2 ^ (64 * k) ≤ 2 ^ 64 * 2 ^ (64 * k) := Nat.mul_le_mul_right _ hy
    rw [Nat.add_mul] at this
    rw [Nat.mul_comm (2 ^ (64 * k)) (2 ^ 64)]
    omega
theorem limbs_ext {m n : Nat} (hm : m < 2 ^ 256) (hn : n < 2 ^ 256) (h : ∀ j, j < 4 → limb m j = limb n j) : m = n := by
  have step : ∀ k, k ≤ 4 → m % 2 ^ (64 * k) = n % 2 ^ (64 * k) := by
    intro k
    induction k with
    | zero => intro _; simp [Nat.mod_one]
    | succ k ih => intro hk; rw [limb_split, limb_split, ih (by omega), h k (by omega)]
  have := step 4 (Nat.le_refl _)
  rwa [Nat.mod_eq_of_lt hm, Nat.mod_eq_of_lt hn] at this
theorem bytes_ext {m n : Nat} (hm : m < 2 ^ 256) (hn : n < 2 ^ 256) (h : ∀ j, j < 32 → lowB m j = lowB n j) : m = n := by
  have step : ∀ k, k ≤ 32 → m % 2 ^ (8 * k) = n % 2 ^ (8 * k) := by
    intro k
    induction k with
    | zero => intro _; simp [Nat.mod_one]
    | succ k ih =>
      intro hk
      have e : ∀ x : Nat, x % 2 ^ (8 * (k + 1)) = x % 2 ^ (8 * k) + 2 ^ (8 * k) * lowB x k := fun x => by
        unfold lowB
        rw [show 8 * (k + 1) = 8 * k + 8 from by omega, Nat.pow_add, Nat.mod_mul]
      rw [e, e, ih (by omega), h k (by omega)]
  have := step 32 (Nat.le_refl _)
  rwa [Nat.mod_eq_of_lt hm, Nat.mod_eq_of_lt hn] at this
theorem limbsV_size (n : Nat) : (limbsV n).size = 4 := rfl
theorem limbsV_one (n : Nat) : oneAll (limbsV n).toList = true := rfl
end Go.Mun
