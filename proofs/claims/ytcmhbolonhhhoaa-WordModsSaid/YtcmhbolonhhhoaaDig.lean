/- Digits of 16 bits, and slices of them in memory. -/
import Derived.Test.YtcmhbolonhhhoaaRefInt
import Derived.Test.YtcmhbolonhhhoaaRefOf
namespace Go.Mun
open Go Go.RowKit Go.Proofs

/-- the i-th digit to the base 65536, the lowest first -/
def dig (n i : Nat) : Nat := n / 2 ^ (16 * i) % 65536
theorem dig_lt (n i : Nat) : dig n i < 65536 := Nat.mod_lt _ (by decide)
/-- the cells of a row of digits -/
def dtab (m n : Nat) : Array Value := tab .i64 m (dig n)
theorem dtab_get {m : Nat} (n : Nat) {i : Nat} (h : i < m) : (dtab m n)[i]? = some (.int .i64 (dig n i : Nat)) := tab_get h
theorem dtab_size (m n : Nat) : (dtab m n).size = m := tab_size
theorem dig_bytes (n i : Nat) : dig n i = lowB n (2 * i + 1) * 256 + lowB n (2 * i) := by
  unfold dig lowB
  have e : 2 ^ (8 * (2 * i + 1)) = 2 ^ (16 * i) * 256 := by rw [show (256 : Nat) = 2 ^ 8 from rfl, ← Nat.pow_add]; congr 1; omega
  rw [e, ← Nat.div_div_eq_div_mul, show 8 * (2 * i) = 16 * i from by omega]
  generalize n / 2 ^ (16 * i) = q
  omega
theorem lowB_mod' {a : Nat} {j n : Nat} (h : j < n) : lowB (a % 2 ^ (8 * n)) j = lowB a j := by
  unfold lowB
  have e : 2 ^ (8 * n) = 2 ^ (8 * j) * (256 * 2 ^ (8 * (n - j - 1))) := by
    rw [show (256 : Nat) = 2 ^ 8 from rfl, ← Nat.pow_add, ← Nat.pow_add]
    congr 1
    omega
  rw [e, Nat.mod_mul_right_div_self, Nat.mod_mul_right_mod]
theorem dig_low (n i : Nat) : dig n i % 256 = lowB n (2 * i) := by
  have h := lowB_lt n (2 * i)
  rw [dig_bytes]
  omega
theorem dig_high (n i : Nat) : dig n i / 256 = lowB n (2 * i + 1) := by
  have h := lowB_lt n (2 * i)
  rw [dig_bytes]
  omega
theorem dig_top {m N : Nat} (h : N < 2 ^ (16 * m)) {i : Nat} (hi : m ≤ i) : dig N i = 0 := by
  unfold dig
  rw [Nat.div_eq_of_lt (Nat.lt_of_lt_of_le h (Nat.pow_le_pow_right (by decide) (by omega)))]
theorem dig_split (N k : Nat) : N % 2 ^ (16 * (k + 1)) = N % 2 ^ (16 * k) + dig N k * 2 ^ (16 * k) := by
  unfold dig
  rw [show 16 * (k + 1) = 16 * k + 16 from by omega, Nat.pow_add, Nat.mod_mul, Nat.mul_comm (2 ^ (16 * k))]
theorem dig_add {x y k : Nat} (hx : x < 2 ^ (16 * k)) (hy : y < 65536) (j : Nat) : dig (x + y * 2 ^ (16 * k)) j = if j = k then y else dig x j := by
  unfold dig
  rcases Nat.lt_trichotomy j k with h | h | h
  · rw [if_neg (by omega)]
    have e : 2 ^ (16 * k) = 2 ^ (16 * j) * (65536 * 2 ^ (16 * (k - j - 1))) := by
      rw [show (65536 : Nat) = 2 ^ 16 from rfl, ← Nat.pow_add, ← Nat.pow_add]
      congr 1
      omega
    rw [e, Nat.mul_left_comm, Nat.add_mul_div_left _ _ (Nat.pow_pos (by decide)), Nat.mul_left_comm, Nat.add_mul_mod_self_left]
  · rw [if_pos h, h, Nat.add_mul_div_right _ _ (Nat.pow_pos (by decide)), Nat.div_eq_of_lt hx, Nat.zero_add, Nat.mod_eq_of_lt hy]
  · rw [if_neg (by omega)]
    have h1 : x + y * 2 ^ (16 * k) < 2 ^ (16 * j) := by
      have h2 : (y + 1) * 2 ^ (16 * k) ≤ 65536 * 2 ^ (16 * k) := Nat.mul_le_mul_right _ hy
      have h3 : 65536 * 2 ^ (16 * k) ≤ 2 ^ (16 * j) := by
        rw [show (65536 : Nat) = 2 ^ 16 from rfl, ← Nat.pow_add]
        exact Nat.pow_le_pow_right (by decide) (by omega)
      rw [Nat.add_mul] at h2
      omega
    rw [Nat.div_eq_of_lt h1, Nat.div_eq_of_lt (Nat.lt_of_le_of_lt (Nat.le_add_right _ _) h1)]
/-- one digit more -/
theorem dtab_step {m x y k : Nat} (hx : x < 2 ^ (16 * k)) (hy : y < 65536) (hk : k < m) : (dtab m x).setIfInBounds k (.int .i64 (y : Nat)) = dtab m (x + y * 2 ^ (16 * k)) := by
  unfold dtab
  rw [tab_set hk]
  exact tab_congr fun i _ => (dig_add hx hy i).symm
theorem dtab_zero (m : Nat) : dtab m 0 = tab .i64 m (fun _ => 0) := tab_congr fun i _ => by unfold dig; rw [Nat.zero_div]
theorem mod_step {n k : Nat} : n % 2 ^ (16 * k) < 2 ^ (16 * k) := Nat.mod_lt _ (Nat.pow_pos (by decide))
/-- digits as an integer's operations -/
theorem dig_or (n i : Nat) : bits .or .i64 ((lowB n (2 * i) : Nat) : Int) (((lowB n (2 * i + 1) : Nat) : Int) * 256) = ((dig n i : Nat) : Int) := by
  have h0 := lowB_lt n (2 * i)
  have h1 := lowB_lt n (2 * i + 1)
  rw [dig_bytes]
  generalize lowB n (2 * i) = x at *
  generalize lowB n (2 * i + 1) = y at *
  have e : (y : Int) * 256 = ((y * 256 : Nat) : Int) := by rw [Int.natCast_mul]; rfl
  have := or_side y x 8 (by omega)
  rw [show (2 : Nat) ^ 8 = 256 from rfl] at this
  rw [e, i64_or_nat _ _ (by omega) (by omega), Nat.or_comm, this]

/-- 'make([]int, n)' -/
theorem wpList_make_ints {P : Program} {ops : Array Oper} {rest : List Oper} {o : Oper} {a : Act} {w : World} {Q : Exit → Act → World → Prop} (hgd : o.guard = none) (x y : Operand) (t : TypeId) (ho : o.op = .makeSlice t x y)
    {e : TypeId} {z : Value} (hT : SliceTy P t e z 1 8) (hc0 : z.cells = #[z]) {n : Nat} (hx : a.eval x = .int .i64 (n : Int)) (hy : a.eval y = .int .i64 (n : Int)) (hn : n ≤ 17592186044416)
    (h : ∀ w', Blk w' w.heap.size e (Array.replicate n z) → Below w.heap.size w w' → w.heap.size < w'.heap.size → wpList P ops Q rest (a.put o.dst (.slice (some ⟨w.heap.size, 0, none⟩) n n)) w') : wpList P ops Q (o :: rest) a w := by
  obtain ⟨ht, i, hi, hz, hsz, hby, _, _⟩ := hT
  refine wpList_make_full w hgd x y t ho w.heap.size e i _ 1 ht hi hz hsz .i64 .i64 _ _ n hx hy rfl rfl (by rw [hby]; omega) (by unfold maxLen; omega) (Nat.le_refl _) fun w' h1 h2 => ?_
  have hb : Blk w' w.heap.size e (Array.replicate n z) := by
    obtain ⟨hl, h⟩ := h1
    rcases h with ⟨hv, _⟩ | ⟨g, cap, cur, hv, hg, hh, _, _, hcur, htk⟩
    · cases hv
    · injection hv with hv1 hv2 hv3
      injection hv1 with hv1
      injection hv1 with hv1
      subst hv1
      subst hv3
      have e : cur = Array.replicate n z := by
        apply Array.toList_inj.1
        rw [← List.take_of_length_le (i := n * 1) (show cur.toList.length ≤ n * 1 by simp [hcur])]
        rw [htk]
        unfold madeCells
        apply List.ext_getElem?
        intro j
        by_cases hj : j < n
        · simp [hc0, hj, Nat.mod_one]
        · simp [hj]
      rw [← e]
      exact hh
  exact h w' hb ((Below.refl _ _).grown h2 (Nat.le_refl _) (fun k hk => by cases hk)) hb.lt
theorem rd_lt {w : World} {ad : Addr} {l : List Value} (h : Rd w (some ad) l) (hl : 0 < l.length) : ad.block < w.heap.size := by
  obtain ⟨a, e, hc⟩ := h.at_ hl
  injection e with e
  subst e
  have := World.block_lt_of_cell? w _ hc
  rwa [blk_add] at this
theorem rd_at {w : World} {ad : Addr} {cs : Array Value} {v : Value} (h : Rd w (some ad) cs.toList) {i : Nat} (hv : cs[i]? = some v) : w.cell? (ad.add i) = some v := h.cells i v (by rw [Array.getElem?_toList]; exact hv)
theorem rd_grown {w w' : World} {ad : Addr} {l : List Value} {g : Nat} (h : Rd w (some ad) l) (hg : w.grownBy w' (some g)) (hne : ad.block ≠ g) : Rd w' (some ad) l := h.grown hg fun a e => by
  injection e with e
  subst e
  simpa using hne
theorem rep_dtab (m : Nat) : Array.replicate m (.int .i64 0) = dtab m 0 := by
  rw [dtab_zero]
  apply Array.toList_inj.1
  rw [tab_list]
  apply List.ext_getElem?
  intro j
  by_cases hj : j < m <;> simp [hj]
theorem intsTy : SliceTy Try.prog 48 3 (.int .i64 0) 1 8 := SliceTy.mk' Try.underlying48 (by kernel_rfl) rfl (by decide)
end Go.Mun
