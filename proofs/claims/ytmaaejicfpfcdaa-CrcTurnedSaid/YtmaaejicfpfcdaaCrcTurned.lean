/- 'munimentslaw20.CrcTurned' answers true at every input, and leaves what it was given. No condition. -/
import Derived.Test.YtmaaejicfpfcdaaCrcAlive
import Derived.Test.YtmaaejicfpfcdaaCrcBits
import Derived.Test.YtmaaejicfpfcdaaRegion
import Derived.Test.YtmaaejicfpfcdaaRows
import Derived.Test.YtmaaejicfpfcdaaLaw
namespace Go.Proofs.Ytmaaejicfpfcdaa.CrcTurned
open Go Go.RowKit Go.Mun Go.Proofs

theorem bytes24 : SliceTy Try.prog 24 5 (.int .u8 0) 1 1 := SliceTy.mk' Try.underlying24 (by kernel_rfl) rfl (by omega)

/-- What each operation of the last statement writes. -/
def S10 (vx vb : Value) (xs l : List UInt8) : Nat → Value → World → Prop
  | 0, v, _ => v = vx
  | 1, v, w => IsRow w v [vx]
  | 2, v, _ => v = .int .i64 (crcSum xs)
  | 3, v, _ => v = vb
  | 4, v, w => IsRow w v [vb]
  | 5, v, _ => v = .int .i64 (crcSum l)
  | 6, v, _ => v = .bool true
  | 7, v, _ => v = .bool true
  | 8, v, _ => v = vb
  | 9, v, w => Bytes w v (l.take 2)
  | 10, v, _ => v = vb
  | 11, v, w => Bytes w v (l.drop 2)
  | 12, v, w => ∃ u1 u2, IsRow w v [u1, u2] ∧ Bytes w u1 (l.take 2) ∧ Bytes w u2 (l.drop 2)
  | 13, v, _ => v = .int .i64 (crcSum l)
  | 14, v, _ => v = vb
  | 15, v, w => IsRow w v [vb]
  | 16, v, _ => v = .int .i64 (crcSum l)
  | _, v, _ => v = .bool true
theorem S10_stays {vx vb : Value} {xs l : List UInt8} : ∀ i v (x y : World), Below x.heap.size x y → S10 vx vb xs l i v x → S10 vx vb xs l i v y
  | 0, _, _, _, _, h => h
  | 1, _, _, _, hb, h => IsRow.ext h hb
  | 2, _, _, _, _, h => h
  | 3, _, _, _, _, h => h
  | 4, _, _, _, hb, h => IsRow.ext h hb
  | 5, _, _, _, _, h => h
  | 6, _, _, _, _, h => h
  | 7, _, _, _, _, h => h
  | 8, _, _, _, _, h => h
  | 9, _, _, _, hb, h => Bytes.ext h hb
  | 10, _, _, _, _, h => h
  | 11, _, _, _, hb, h => Bytes.ext h hb
  | 12, _, _, _, hb, ⟨u1, u2, h1, h2, h3⟩ => ⟨u1, u2, h1.ext hb, h2.ext hb, h3.ext hb⟩
  | 13, _, _, _, _, h => h
  | 14, _, _, _, _, h => h
  | 15, _, _, _, hb, h => IsRow.ext h hb
  | 16, _, _, _, _, h => h
  | _ + 17, _, _, _, _, h => h

theorem u8_xor_pow (x : UInt8) (r : Nat) (hr : r < 8) : bits .xor .u8 (x.toNat : Int) (2 ^ r % 256) = ((x ^^^ UInt8.ofNat (2 ^ r)).toNat : Int) := by
  have hlt : 2 ^ r < 256 := by
    have : 2 ^ r ≤ 2 ^ 7 := Nat.pow_le_pow_right (by omega) (by omega)
    omega
  have e : ((2 : Int) ^ r % 256) = ((2 ^ r : Nat) : Int) := by
    rw [show (2 : Int) ^ r = ((2 ^ r : Nat) : Int) from (Int.natCast_pow 2 r).symm]
    generalize 2 ^ r = m at hlt
    omega
  rw [e, u8_xor_nat _ _ x.toNat_lt hlt, UInt8.toNat_xor, UInt8.toNat_ofNat_of_lt' hlt]
/-- one bit of a row of bytes, turned -/
theorem bitOf_set (xs : List UInt8) (p : Nat) (h : p / 8 < xs.length) (t : Nat) :
    bitOf (xs.set (p / 8) (xs[p / 8] ^^^ UInt8.ofNat (2 ^ (p % 8)))) t = (bitOf xs t ^^ decide (t = p)) := by
  have hlt : 2 ^ (p % 8) < 256 := by
    have : 2 ^ (p % 8) ≤ 2 ^ 7 := Nat.pow_le_pow_right (by omega) (by omega)
    omega
  unfold bitOf
  by_cases hq : t / 8 = p / 8
  · rw [hq]
    rw [List.getElem?_set_self h, List.getElem?_eq_getElem h]
    show ((xs[p / 8] ^^^ UInt8.ofNat (2 ^ (p % 8))).toNat).testBit (t % 8) = ((xs[p / 8].toNat).testBit (t % 8) ^^ _)
    rw [UInt8.toNat_xor, UInt8.toNat_ofNat_of_lt' hlt, Nat.testBit_xor, Nat.testBit_two_pow]
    have : decide (p % 8 = t % 8) = decide (t = p) := decide_eq_decide.2 (by omega)
    rw [this]
  · rw [List.getElem?_set_ne (by omega), decide_eq_false (by intro e; subst e; exact hq rfl)]
    simp
theorem and_low (y : Int) : bits .and .i64 y 1 = y % 2 := by
  show IntKind.i64.wrap ((BitVec.ofInt 64 y &&& BitVec.ofInt 64 1).toNat : Int) = _
  rw [BitVec.toNat_and, show (BitVec.ofInt 64 1).toNat = 2 ^ 1 - 1 from rfl, Nat.and_two_pow_sub_one_eq_mod, BitVec.toNat_ofInt, IntKind.wrap_i64]
  omega
theorem and_word (y : Int) : bits .and .i64 y 4294967295 = y % 4294967296 := by
  show IntKind.i64.wrap ((BitVec.ofInt 64 y &&& BitVec.ofInt 64 4294967295).toNat : Int) = _
  rw [BitVec.toNat_and, show (BitVec.ofInt 64 4294967295).toNat = 2 ^ 32 - 1 from rfl, Nat.and_two_pow_sub_one_eq_mod, BitVec.toNat_ofInt, IntKind.wrap_i64]
  omega
/-- the i-th bit of y, as the walk asks for it -/
def ybit (y : Int) (i : Nat) : Bool := bits .and .i64 (y / 2 ^ i) 1 == 1
theorem ybit_some {y : Int} (h : y % 4294967296 ≠ 0) : ∃ i, i < 32 ∧ ybit y i = true := by
  rcases Classical.em (∃ i, i < 32 ∧ ybit y i = true) with h1 | h1
  · exact h1
  · exfalso
    have h0 : ∀ i, i < 32 → (y / 2 ^ i) % 2 = 0 := by
      intro i hi
      have : ybit y i = false := by
        cases hy : ybit y i with
        | false => rfl
        | true => exact absurd ⟨i, hi, hy⟩ h1
      unfold ybit at this
      rw [and_low] at this
      have := beq_eq_false_iff_ne.1 this
      omega
    have hz : ∀ i, i ≤ 32 → ∃ z, y = 2 ^ i * z := by
      intro i
      induction i with
      | zero => intro _; exact ⟨y, by simp⟩
      | succ i ih =>
        intro hi
        obtain ⟨z, hz⟩ := ih (by omega)
        have := h0 i (by omega)
        have hp : (2 : Int) ^ i ≠ 0 := by
          have := Int.pow_pos (n := 2) (m := i) (by omega); omega
        rw [hz, Int.mul_ediv_cancel_left _ hp] at this
        obtain ⟨z', rfl⟩ : ∃ z', z = 2 * z' := ⟨z / 2, by omega⟩
        exact ⟨z', by rw [hz, Int.pow_succ, Int.mul_assoc]⟩
    obtain ⟨z, hz⟩ := hz 32 (by omega)
    have : (2 : Int) ^ 32 = 4294967296 := by decide
    rw [this] at hz
    omega
/-- what has been turned behind j rounds -/
def turned (q : Nat) (y : Int) (j p : Nat) : Bool := decide (q ≤ p ∧ p < q + j) && ybit y (p - q)
theorem turned_zero (q : Nat) (y : Int) (p : Nat) : turned q y 0 p = false := by
  unfold turned
  rw [decide_eq_false (by omega)]; rfl
theorem turned_yes {q : Nat} {y : Int} {j : Nat} (h : ybit y j = true) (p : Nat) : turned q y (j + 1) p = (turned q y j p ^^ decide (p = q + j)) := by
  unfold turned
  by_cases e : p = q + j
  · subst e
    rw [decide_eq_true (by omega), decide_eq_false (by omega), show q + j - q = j from by omega, h]; simp
  · rw [decide_eq_false e]
    by_cases hp : q ≤ p ∧ p < q + j
    · rw [decide_eq_true hp, decide_eq_true (by omega)]; simp
    · rw [decide_eq_false hp, decide_eq_false (by omega)]; simp
theorem turned_no {q : Nat} {y : Int} {j : Nat} (h : ybit y j = false) (p : Nat) : turned q y (j + 1) p = turned q y j p := by
  unfold turned
  by_cases e : p = q + j
  · subst e
    rw [show q + j - q = j from by omega, h]; simp
  · congr 1
    apply decide_eq_decide.2
    omega

set_option maxRecDepth 100000 in
set_option maxHeartbeats 1000000 in
theorem walk (A : Option Addr) (n c : Nat) (l : List UInt8) (k y : Int) (w : World) (hl : l.length = n) (hnc : n ≤ c) (hcm : c ≤ maxLen) (hr : Rd w A (bv l)) (hk1 : -9223372036854775808 ≤ k) (hk2 : k ≤ 9223372036854775807)
    :
    Calls Try.prog 4 #[.slice A n c, .int .i64 k, .int .i64 y] w fun e w' => e = .returned (.bool true) ∧ Below w.heap.size w w' := by
  unfold maxLen at hcm
  by_cases h1 : n < 4
  · have d1 : decide ((n : Int) < 4) = true := by simp; omega
    go_enter Try.func4, Try.ntmps4
    go_wp2_with fail
    refine (alive20 w).mono ?_
    rintro e w1 ⟨rfl, hb1⟩
    go_wp2
    go_ret
    exact ⟨rfl, hb1⟩
  have d1 : decide ((n : Int) < 4) = false := by simp; omega
  by_cases h2 : 3000 < n
  · have d2 : decide ((3000 : Int) < n) = true := by simp; omega
    go_enter Try.func4, Try.ntmps4
    go_wp2_with fail
    refine (alive20 w).mono ?_
    rintro e w1 ⟨rfl, hb1⟩
    go_wp2
    go_ret
    exact ⟨rfl, hb1⟩
  have d2 : decide ((3000 : Int) < n) = false := by simp; omega
  by_cases h3 : k < 0
  · have d3 : decide (k < 0) = true := by simp; omega
    go_enter Try.func4, Try.ntmps4
    go_wp2_with fail
    refine (alive20 w).mono ?_
    rintro e w1 ⟨rfl, hb1⟩
    go_wp2
    go_ret
    exact ⟨rfl, hb1⟩
  have d3 : decide (k < 0) = false := by simp; omega
  by_cases h4 : 8 * (n : Int) - 32 < k
  · have d4 : decide (8 * (n : Int) - 32 < k) = true := by simp; omega
    go_enter Try.func4, Try.ntmps4
    go_wp2_with fail
    refine (alive20 w).mono ?_
    rintro e w1 ⟨rfl, hb1⟩
    go_wp2
    go_ret
    exact ⟨rfl, hb1⟩
  have d4 : decide (8 * (n : Int) - 32 < k) = false := by simp; omega
  by_cases h5 : (bits .and .i64 y 4294967295 == 0) = true
  · go_enter Try.func4, Try.ntmps4
    go_wp2_with fail
    refine (alive20 w).mono ?_
    rintro e w1 ⟨rfl, hb1⟩
    go_wp2
    go_ret
    exact ⟨rfl, hb1⟩
  have d5 : (bits .and .i64 y 4294967295 == 0) = false := by simpa using h5
  have H5 := Lib.hid h5
  clear h5
  obtain ⟨q, rfl⟩ := Int.eq_ofNat_of_zero_le (by omega : 0 ≤ k)
  have ht := bytes24
  go_enter Try.func4, Try.ntmps4
  go_wp2_with fail
  refine (alive20 w).mono ?_
  rintro e w1 ⟨rfl, hb1⟩
  have hr1 := hr.ext hb1
  go_wp2_with (at_builtin; refine wpList_append_rd _ rfl (.const (.slice none 0 0)) (.tmp 41) _ rfl w.heap.size _ _ 1 1 ht _ _ _ rfl (World.ownsRow_nil _ _ _ _) A n c (bv l) rfl (by rw [bv_length]; omega) hr1 bv_one (by unfold maxLen; omega) (by omega) hb1.size ?_; intro v2 w2 hown2 hg2 hat2; clear hat2)
  simp only [Nat.zero_add, List.nil_append] at hown2
  have hb2 := below_own hb1 (World.ownsRow_nil _ w.heap.size 5 1) (Nat.le_refl _) hg2 hb1.size
  have hr2 := hr.ext hb2
  obtain ⟨g, cap, rfl, hg1, hg3⟩ := hown2.form (by omega)
  clear hr1 hg2 hb1
  go_loopw [9] (fun i wr => ∃ (j : Nat) (xs : List UInt8), j ≤ 32 ∧ i = .int .i64 j ∧ Below w.heap.size w wr ∧ xs.length = n ∧ wr.ownsRow w.heap.size 5 1 (.slice (some ⟨g, 0, none⟩) n cap) n (bv xs) ∧ Hid (∀ p, bitOf xs p = (bitOf l p ^^ turned q y j p))) (fun i _ => 32 - (intOf i).toNat)
  case atStart => exact ⟨0, l, by omega, rfl, hb2, hl, hown2, fun p => by rw [turned_zero]; simp⟩
  case round =>
    obtain ⟨j, xs, hj, rfl, hbr, hxl, hown, HT⟩ := hrel
    clear hown2 hb2 hr2
    by_cases hj32 : j < 32
    · by_cases hy : (bits .and .i64 (y / 2 ^ j) 1 == 1) = true
      · have hlt : (q + j) / 8 < xs.length := by omega
        have hcell : wr.cell? ⟨g, (q + j) / 8, none⟩ = some (.int .u8 (xs[(q + j) / 8].toNat : Int)) := by
          rw [hown.cellAt _ (by omega)]; exact bv_get hlt
        have hfz := hown.frozenAt ((q + j) / 8)
        have hst := hown.stored ((q + j) / 8) (.int .u8 ((xs[(q + j) / 8] ^^^ UInt8.ofNat (2 ^ ((q + j) % 8))).toNat : Int))
        rw [bv_set] at hst
        have HST := Lib.hid hst
        clear hst
        have hx := u8_xor_pow xs[(q + j) / 8] ((q + j) % 8) (by omega)
        go_wp2
        go_roundw
        case rel =>
          refine ⟨j + 1, xs.set ((q + j) / 8) (xs[(q + j) / 8] ^^^ UInt8.ofNat (2 ^ ((q + j) % 8))), by omega, by go_num, hbr.setCell (by omega) _, by simpa using hxl, HST.out.1, fun p => ?_⟩
          rw [bitOf_set xs (q + j) hlt, HT.out, turned_yes hy]
          simp
        case measure => simp [intOf]; omega
      · have hy' : (bits .and .i64 (y / 2 ^ j) 1 == 1) = false := by simpa using hy
        have HY := Lib.hid hy'
        go_wp2
        go_roundw
        case rel => exact ⟨j + 1, xs, by omega, by go_num, hbr, hxl, hown, fun p => by rw [HT.out, turned_no HY.out]⟩
        case measure => simp [intOf]; omega
    · obtain rfl : j = 32 := by omega
      have hne : crcSum xs ≠ crcSum l := by
        refine crcSum_turned l xs q (turned q y 32) (by omega) (by omega) (fun i hi => ?_) ?_ (fun i _ => HT.out i)
        · unfold turned; rw [decide_eq_false (by omega)]; rfl
        · obtain ⟨i, hi, hyi⟩ := ybit_some (y := y) (by have := H5.out; rw [and_word] at this; simpa using this)
          exact ⟨i, hi, by unfold turned; rw [decide_eq_true (by omega), show q + i - q = i from by omega, hyi]; rfl⟩
      have HNE := Lib.hid hne
      clear hne
      have hbl : Bytes wr.drew (.slice A n c) l := ⟨A, n, c, rfl, hl, hnc, by unfold maxLen; exact hcm, (hr.ext hbr).drew⟩
      have hbx : Bytes wr.drew (.slice (some ⟨g, 0, none⟩) n cap) xs := (Bytes.own hown).ext ((Below.refl _ _).drew)
      go_wp2_with fail
      refine wp_region_each (by kernel_rfl) (by kernel_rfl) (by kernel_rfl) (fun w w' => Below w.heap.size w w') (fun w => Below.refl _ _) (fun x y z h1 h2 => below_step h1 h2) (S10 (.slice (some ⟨g, 0, none⟩) n cap) (.slice A n c) xs l) S10_stays ?_ ?_
      · simp only [EachStep]
        refine ⟨?_, ?_, ?_, ?_, ?_, ?_, ?_, ?_, ?_, ?_, ?_, ?_, ?_, ?_, ?_, ?_, ?_, ?_, ?_, ?_, trivial⟩
        · intro V w' hb hd
          refine ⟨?_⟩
          simp only [fill]
          go_wp2
          exact ⟨rfl, rfl, Below.refl _ _, rfl⟩
        · intro V w' hb hd
          simp only [DepFacts, S10, Region.binds, forall_const, and_true] at hd
          have h0 := hd
          clear hd
          refine ⟨?_⟩
          simp only [fill, h0]
          clear h0
          go_wp2
          exact ⟨rfl, rfl, (Below.refl _ _).alloc (Nat.le_refl _) _, _, rfl, Rd.new _ #[_] _ _⟩
        · intro V w' hb hd
          simp only [DepFacts, S10, Region.binds, forall_const, and_true] at hd
          obtain ⟨a, h1, hrd⟩ := hd
          refine ⟨?_⟩
          simp only [fill, h1, List.length_cons, List.length_nil]
          clear h1
          go_wp2_with fail
          refine (Sum_any (some a) 1 1 [xs] _ _ rfl rfl (by omega) hrd fun i hi => ?_).mono ?_
          · obtain rfl : i = 0 := by omega
            exact hbx.ext hb
          · rintro e w2 ⟨rfl, rfl⟩
            go_wp2
            exact ⟨rfl, rfl, Below.refl _ _, by simp [S10]⟩
        · intro V w' hb hd
          refine ⟨?_⟩
          simp only [fill]
          go_wp2
          exact ⟨rfl, rfl, Below.refl _ _, rfl⟩
        · intro V w' hb hd
          simp only [DepFacts, S10, Region.binds, forall_const, and_true] at hd
          have h3 := hd
          clear hd
          refine ⟨?_⟩
          simp only [fill, h3]
          clear h3
          go_wp2
          exact ⟨rfl, rfl, (Below.refl _ _).alloc (Nat.le_refl _) _, _, rfl, Rd.new _ #[_] _ _⟩
        · intro V w' hb hd
          simp only [DepFacts, S10, Region.binds, forall_const, and_true] at hd
          obtain ⟨⟨a, h4, hrd⟩, h2⟩ := hd
          refine ⟨?_⟩
          simp only [fill, h4, h2, List.length_cons, List.length_nil]
          clear h4 h2
          go_wp2_with fail
          refine (Sum_any (some a) 1 1 [l] _ _ rfl rfl (by omega) hrd fun i hi => ?_).mono ?_
          · obtain rfl : i = 0 := by omega
            exact hbl.ext hb
          · rintro e w2 ⟨rfl, rfl⟩
            go_wp2
            exact ⟨rfl, rfl, Below.refl _ _, by simp [S10]⟩
        · intro V w' hb hd
          simp only [DepFacts, S10, Region.binds, forall_const, and_true] at hd
          have h2 := hd.1
          have h5 := hd.2
          clear hd
          refine ⟨?_⟩
          simp only [fill, h2, h5]
          clear h2 h5
          go_wp2
          exact ⟨rfl, rfl, Below.refl _ _, by simpa [S10] using HNE.out⟩
        · intro V w' hb hd
          simp only [DepFacts, S10, Region.binds, forall_const, and_true] at hd
          have h6 := hd.1
          have h5 := hd.2
          clear hd
          refine ⟨?_⟩
          simp only [fill, h6, h5]
          clear h6 h5
          go_wp2
          exact ⟨rfl, rfl, Below.refl _ _, rfl⟩
        · intro V w' hb hd
          simp only [DepFacts, S10, Region.binds, forall_const, and_true] at hd
          have h7 := hd
          clear hd
          refine ⟨?_⟩
          simp only [fill, h7]
          clear h7
          go_wp2
          exact ⟨rfl, rfl, Below.refl _ _, rfl⟩
        · intro V w' hb hd
          simp only [DepFacts, S10, Region.binds, forall_const, and_true] at hd
          have h8 := hd.1
          have h7 := hd.2
          clear hd
          obtain ⟨A', hrun, hcut⟩ := cut_h ht A n c (kh := .i64) (hi' := 2) (hi := 2) rfl (by omega)
          refine ⟨?_⟩
          simp only [fill, h8, h7]
          clear h8 h7
          go_wp2
          exact ⟨rfl, rfl, Below.refl _ _, hcut _ _ (hbl.ext hb) (by omega)⟩
        · intro V w' hb hd
          simp only [DepFacts, S10, Region.binds, forall_const, and_true] at hd
          have h7 := hd
          clear hd
          refine ⟨?_⟩
          simp only [fill, h7]
          clear h7
          go_wp2
          exact ⟨rfl, rfl, Below.refl _ _, rfl⟩
        · intro V w' hb hd
          simp only [DepFacts, S10, Region.binds, forall_const, and_true] at hd
          have h10 := hd.1
          have h7 := hd.2
          clear hd
          obtain ⟨A', hrun, hcut⟩ := cut_l ht A n c (kl := .i64) (lo' := 2) (lo := 2) rfl (by omega)
          refine ⟨?_⟩
          simp only [fill, h10, h7]
          clear h10 h7
          go_wp2
          exact ⟨rfl, rfl, Below.refl _ _, hcut _ _ (hbl.ext hb)⟩
        · intro V w' hb hd
          simp only [DepFacts, S10, Region.binds, forall_const, and_true] at hd
          have h9 := hd.1
          have h11 := hd.2.1
          have h7 := hd.2.2
          clear hd
          obtain ⟨A9, n9, c9, e9, hb9⟩ := h9
          obtain ⟨A11, n11, c11, e11, hb11⟩ := h11
          refine ⟨?_⟩
          simp only [fill, h7]
          clear h7
          simp only [e9, e11]
          clear e9 e11
          go_wp2
          exact ⟨rfl, rfl, (Below.refl _ _).alloc (Nat.le_refl _) _, _, _, ⟨_, rfl, Rd.new _ #[_, _] _ _⟩, Bytes.ext ⟨A9, n9, c9, rfl, hb9⟩ ((Below.refl _ _).alloc (Nat.le_refl _) _), Bytes.ext ⟨A11, n11, c11, rfl, hb11⟩ ((Below.refl _ _).alloc (Nat.le_refl _) _)⟩
        · intro V w' hb hd
          simp only [DepFacts, S10, Region.binds, forall_const, and_true] at hd
          have h7 := hd.2.1
          obtain ⟨⟨u1, u2, ⟨a, h12, hrd⟩, hu1, hu2⟩, _⟩ := hd
          refine ⟨?_⟩
          simp only [fill, h7]
          simp only [h12, List.length_cons, List.length_nil]
          clear h12 h7
          go_wp2_with fail
          refine (Sum_any (some a) 2 2 [l.take 2, l.drop 2] _ _ rfl rfl (by omega) hrd fun i hi => ?_).mono ?_
          · rcases i with _ | _ | i
            · exact hu1
            · exact hu2
            · omega
          · rintro e w2 ⟨rfl, rfl⟩
            go_wp2
            exact ⟨rfl, rfl, Below.refl _ _, by simp [S10]⟩
        · intro V w' hb hd
          simp only [DepFacts, S10, Region.binds, forall_const, and_true] at hd
          have h7 := hd
          clear hd
          refine ⟨?_⟩
          simp only [fill, h7]
          clear h7
          go_wp2
          exact ⟨rfl, rfl, Below.refl _ _, rfl⟩
        · intro V w' hb hd
          simp only [DepFacts, S10, Region.binds, forall_const, and_true] at hd
          have h14 := hd.1
          have h7 := hd.2
          clear hd
          refine ⟨?_⟩
          simp only [fill, h14, h7]
          clear h14 h7
          go_wp2
          exact ⟨rfl, rfl, (Below.refl _ _).alloc (Nat.le_refl _) _, _, rfl, Rd.new _ #[_] _ _⟩
        · intro V w' hb hd
          simp only [DepFacts, S10, Region.binds, forall_const, and_true] at hd
          have h7 := hd.2.2
          obtain ⟨⟨a, h15, hrd⟩, h13, _⟩ := hd
          refine ⟨?_⟩
          simp only [fill, h7]
          simp only [h15, h13, List.length_cons, List.length_nil]
          clear h15 h13 h7
          go_wp2_with fail
          refine (Sum_any (some a) 1 1 [l] _ _ rfl rfl (by omega) hrd fun i hi => ?_).mono ?_
          · obtain rfl : i = 0 := by omega
            exact hbl.ext hb
          · rintro e w2 ⟨rfl, rfl⟩
            go_wp2
            exact ⟨rfl, rfl, Below.refl _ _, by simp [S10]⟩
        · intro V w' hb hd
          simp only [DepFacts, S10, Region.binds, forall_const, and_true] at hd
          have h13 := hd.1
          have h16 := hd.2.1
          have h7 := hd.2.2
          clear hd
          refine ⟨?_⟩
          simp only [fill, h13, h16, h7]
          clear h13 h16 h7
          go_wp2
          exact ⟨rfl, rfl, Below.refl _ _, by simp [S10]⟩
        · intro V w' hb hd
          simp only [DepFacts, S10, Region.binds, forall_const, and_true] at hd
          have h7 := hd.1
          have h17 := hd.2
          clear hd
          refine ⟨?_⟩
          simp only [fill, h17, h7]
          clear h17 h7
          go_wp2
          exact ⟨rfl, rfl, Below.refl _ _, by simp [S10]⟩
        · intro V w' hb hd
          simp only [DepFacts, S10, Region.binds, forall_const, and_true] at hd
          have h18 := hd.1
          clear hd
          refine ⟨?_⟩
          simp only [fill, h18]
          clear h18
          go_wp2
          exact ⟨rfl, rfl, Below.refl _ _, by simp [S10]⟩
      · intro V w' hb hs
        simp only [SFacts, S10] at hs
        have h19 := hs.2.2.2.2.2.2.2.2.2.2.2.2.2.2.2.2.2.2.2.1
        clear hs
        simp only [fill, h19]
        go_wp2
        go_ret
        exact ⟨by simp [Act.put], below_step hbr.drew hb⟩

open Go.ChangeShapes Go.WideShapes Go.ChangeAt

set_option maxRecDepth 100000 in
theorem lifted (os : Os) (started : os.Started) (H : Type) (enc : TypeId × Value → H) :
    ReturnsInHanded {} Try.checked os 4 .any (Rows.crcTurnedSpec.pre6 enc Try.prog Try.f4 Rows.crcTurnedRow.domain false) (Rows.crcTurnedSpec.post enc Try.prog Try.f4 false true false false) := by
  refine law_lift (C := Try.checked) (ts := [24, 3, 3]) (tb := 4) (by kernel_rfl) started (by kernel_rfl) Try.func4
    (ChangeSpec.witness6 (enc := enc) (C := Try.checked) false ⟨#[], #[.slice none 0 0, .int .i64 0, .int .i64 0], []⟩ 8 (by kernel_rfl) (by kernel_rfl) (by kernel_rfl) (by kernel_rfl))
    (by kernel_rfl) (by kernel_rfl) (by kernel_rfl) (by kernel_rfl) Try.underlying4 rfl (fun ds h => by match ds, h with | [_, _, _], _ => rfl) ?_
  intro W vs hl h
  match vs, hl with
  | [v0, v1, v2], _ =>
    obtain ⟨l, A, n, c, rfl, h1, h2, h3, h4⟩ := arg_bytes Try.underlying24 Try.underlying5 (by kernel_rfl) (h 0 _ v0 rfl rfl)
    obtain ⟨k, rfl, hk⟩ := arg_int Try.underlying3 (h 1 _ v1 rfl rfl)
    obtain ⟨y, rfl, _⟩ := arg_int Try.underlying3 (h 2 _ v2 rfl rfl)
    have hk := bounds_i64 hk

    exact walk A n c l k y W h1 h2 h3 h4 hk.1 hk.2

theorem over : Rows.crcTurnedRow.holds Try.pinned (OpenSpec.ofChange Rows.crcTurnedSpec) :=
  OpenClaim.holds_of_wide 4 Try.f4 rfl rfl rfl rfl rfl rfl rfl ⟨rfl, rfl, rfl, rfl, rfl⟩ rfl rfl rfl rfl rfl (by kernel_rfl) Try.func4 (by kernel_rfl)
    (of_decide_eq_true (by kernel_rfl)) (by unfold Func.isWrapper; first | (rw [if_pos (by decide +kernel)]; kernel_rfl) | (rw [if_neg (by decide +kernel)]; exact ⟨rfl, rfl⟩))
    (fun os started H enc _ => lifted os started H enc)
end Go.Proofs.Ytmaaejicfpfcdaa.CrcTurned
namespace Go.Proofs.Ytmaaejicfpfcdaa
theorem crcTurned_holds : Rows.CrcTurnedSaid := CrcTurned.over
#print axioms crcTurned_holds
end Go.Proofs.Ytmaaejicfpfcdaa
