/- 'MemCosts' answers true at every input, and leaves what it was given. No condition. -/
import Derived.Test.YtpliedimdhilcaaMemAlive
import Derived.Test.YtpliedimdhilcaaLaw
import Derived.Test.YtpliedimdhilcaaRows
namespace Go.Proofs.Ytpliedimdhilcaa.MemCosts
open Go Go.RowKit Go.Mun Go.Proofs

theorem i64_and4095 (x : Int) : bits .and .i64 x 4095 = x % 4096 := i64_and_mask x 12 4095 (by omega) rfl
theorem int_cell {n : Nat} {vs : List Value} {ls : List Int} {w : World} (hvl : vs.length = n) (hl : ls.length = n) (hb : ∀ i (hi : i < ls.length), rInt .i64 w (chunk vs 1 i) ls[i]) {k : Nat} (hk : k < n) :
    ∃ x, vs[k]? = some (.int .i64 x) := by
  have := hb k (by omega)
  have hlt : k < vs.length := by omega
  refine ⟨ls[k], ?_⟩
  have h := this.1
  have hc : chunk vs 1 k = [vs[k]] := by
    unfold chunk
    rw [Nat.mul_one]
    apply List.ext_getElem?
    intro j
    rcases j with _ | j
    · simp [hlt]
    · simp; omega
  rw [hc] at h
  injection h with h _
  rw [List.getElem?_eq_getElem hlt, h]

set_option maxRecDepth 100000 in
set_option maxHeartbeats 4000000 in
theorem walk (words : Int) (v : Value) (ls : List Int) (w : World) (h1 : -9223372036854775808 ≤ words) (h2 : words ≤ 9223372036854775807) (h : SliceOf 1 (rInt .i64) w v ls) :
    Calls Try.prog 4 #[.int .i64 words, v] w fun e w' => e = .returned (.bool true) ∧ Below w.heap.size w w' := by
  obtain ⟨A, n, c, vs, rfl, hl, hvl, hnc, hcm, hr, hb⟩ := h
  rw [Nat.mul_one] at hvl
  have HX := Lib.hid (fun k (hk : k < n) => int_cell hvl hl hb hk)
  clear hb
  unfold maxLen at hcm
  have CA := Lib.hid alive13
  have zM := zMem
  have C0 := Lib.hid Of_zero
  have CN := Lib.hid Of_nat
  have HC1 := Lib.hid (fun w => Cost_any words w h1 h2)
  have HC2 := Lib.hid (fun w => RefCost_any words w h1 h2)
  by_cases h60 : 60 < n
  · have h60' : (60 : Int) < (n : Int) := by omega
    go_enter Try.func4, Try.ntmps4
    go_wp2_with (first
      | (go_at_call 14; refine (CA.out _).mono ?_; rintro e w1 ⟨rfl, hb1⟩)
      | fail)
    go_ret
    exact ⟨rfl, hb1⟩
  · have h60' : decide ((60 : Int) < (n : Int)) = false := by simp; omega
    have tk1 : True := trivial
    go_enter Try.func4, Try.ntmps4
    go_wp2_with (first
      | (go_at_call 14; refine (CA.out _).mono ?_; rintro e w1 ⟨rfl, hb1⟩)
      | ((with_reducible refine gd_alloc ?_); have _t := tk1; refine wpList_alloc_blk rfl 35 rfl zM ?_; clear tk1; intro w2 hx2 hb2 hl2; have hz2 := hx2.lt)
      | ((with_reducible refine gd_alloc ?_); refine wpList_alloc_blk rfl 35 rfl zM ?_; intro w3 hx3 hb3 hl3; have hz3 := hx3.lt)
      | fail)
    have hy2 : Blk w3 w1.heap.size 35 #[.slice none (32 * 0) 0] := hx2.ext hb3
    have hy3 : Blk w3 w2.heap.size 35 #[.slice none 0 0] := hx3
    have hB3 := below_step (below_step hb1 hb2) hb3
    have hs1 := hb1.size
    obtain ⟨g1, hg1⟩ : ∃ g, g = w1.heap.size := ⟨_, rfl⟩
    obtain ⟨g2, hg2⟩ : ∃ g, g = w2.heap.size := ⟨_, rfl⟩
    rw [← hg1] at hy2 hz2 hl2
    rw [← hg2] at hy3 hz3 hl3
    simp only [← hg1, ← hg2]
    have hgw : w.heap.size ≤ g1 := by omega
    have hgg : g1 < g2 := by omega
    clear hg1 hg2 hx2 hx3 hb1 hb2 hb3 hl2 hl3 hs1
    have hz3 : g2 + 1 ≤ w3.heap.size := hz3
    go_loopw [8, 9, 10] (fun s m i wr => ∃ k M q : Nat, k ≤ n ∧ M ≤ 4095 ∧ Hid (q = (M + 31) / 32) ∧ s = .int .i64 (memCost q) ∧ m = .int .i64 M ∧ i = .int .i64 k ∧ Below w.heap.size w wr ∧ g2 + 1 ≤ wr.heap.size ∧
        Blk wr g2 35 #[.slice none 0 0] ∧ ∃ A' c' xs, Blk wr g1 35 #[.slice A' (32 * q) c'] ∧ wr.ownsRow (g2 + 1) 5 1 (.slice A' (32 * q) c') (32 * q) xs) (fun _ _ i _ => n - (intOf i).toNat)
    case atStart => exact ⟨0, 0, 0, Nat.zero_le _, by omega, Lib.hid (by decide), by rfl, rfl, rfl, hB3, hz3, hy3, none, 0, [], hy2, World.ownsRow_nil _ _ _ _⟩
    case round =>
      clear hy2 hy3 hB3 hz3
      obtain ⟨k, M, q, hk, hM, hq, rfl, rfl, rfl, hBr, hzr, hy3, A', c', xs, hy2, ho2⟩ := hrel
      have hqb : q ≤ 128 := by rw [hq.out]; omega
      by_cases hlt : k < n
      · obtain ⟨ad, rfl, hcell⟩ := (hr.ext hBr).at_ (j := k) (by omega)
        obtain ⟨x, hx⟩ := HX.out k hlt
        rw [List.getElem?_eq_getElem (by omega)] at hx
        injection hx with hx
        rw [hx] at hcell
        clear hx
        obtain ⟨y, hy⟩ : ∃ y : Nat, x % 4096 = y := ⟨(x % 4096).toNat, by omega⟩
        have hyb : y ≤ 4095 := by omega
        have ex : bits .and .i64 x 4095 = (y : Int) := by rw [i64_and4095, hy]
        clear hy
        obtain ⟨q', hq'⟩ : ∃ q', q' = max q ((y + 31) / 32) := ⟨_, rfl⟩
        have Hq' := Lib.hid hq'
        clear hq'
        have cb1 := memCost_bd q
        have cb2 := memCost_bd q'
        have CY := Lib.hid (fun w => CN.out y (by omega) w)
        have tk1 : True := trivial
        by_cases hlm : M < y
        · have dm : decide ((M : Int) < y) = true := decide_eq_true (by omega)
          have HQ := Lib.hid (show q' = (y + 31) / 32 by rw [Hq'.out, hq.out]; omega)
          go_wp2_with (first
            | (go_at_call 16; have _t := tk1; refine (C0.out _).mono ?_; clear tk1; rintro e w4 ⟨rfl, hb4⟩)
            | (go_at_call 16; refine (CY.out _).mono ?_; rintro e w5 ⟨rfl, hb5⟩; have hb45 := below_step hb4 hb5; have hy35 := hy3.ext hb45; have hy25 := hy2.ext hb45; have ho25 := own_ext ho2 hb45; have hs5 := hb45.size)
            | (go_at_call 15; refine (Grow_at0 y _ _ (g2 + 1) q q' _ _ _ (by omega) (by omega) Hq' hy25 ho25 (by omega) (by omega)).mono ?_; rintro e w6 ⟨rfl, A6, c6, hy6, ho6, hk6⟩)
            | fail)
          have hB6 := (below_step hBr hb45).trans (hk6.below (by omega) (by omega))
          go_roundw
          case rel =>
            refine ⟨k + 1, y, q', by omega, hyb, HQ, by go_num, rfl, by go_num, hB6, Nat.le_trans hzr (Nat.le_trans hb45.size hk6.size), hk6.blk hy35 (by omega) (by omega), A6, c6, _, hy6, ho6⟩
          case measure => simp [intOf]; omega
        · have dm : decide ((M : Int) < y) = false := decide_eq_false (by omega)
          have HQ := Lib.hid (show q' = (M + 31) / 32 by rw [Hq'.out, hq.out]; omega)
          go_wp2_with (first
            | (go_at_call 16; have _t := tk1; refine (C0.out _).mono ?_; clear tk1; rintro e w4 ⟨rfl, hb4⟩)
            | (go_at_call 16; refine (CY.out _).mono ?_; rintro e w5 ⟨rfl, hb5⟩; have hb45 := below_step hb4 hb5; have hy35 := hy3.ext hb45; have hy25 := hy2.ext hb45; have ho25 := own_ext ho2 hb45; have hs5 := hb45.size)
            | (go_at_call 15; refine (Grow_at0 y _ _ (g2 + 1) q q' _ _ _ (by omega) (by omega) Hq' hy25 ho25 (by omega) (by omega)).mono ?_; rintro e w6 ⟨rfl, A6, c6, hy6, ho6, hk6⟩)
            | fail)
          have hB6 := (below_step hBr hb45).trans (hk6.below (by omega) (by omega))
          go_roundw
          case rel =>
            refine ⟨k + 1, M, q', by omega, hM, HQ, by go_num, rfl, by go_num, hB6, Nat.le_trans hzr (Nat.le_trans hb45.size hk6.size), hk6.blk hy35 (by omega) (by omega), A6, c6, _, hy6, ho6⟩
          case measure => simp [intOf]; omega
      · obtain rfl : k = n := by omega
        have CM := Lib.hid (fun w => CN.out M (by omega) w)
        have cb1 := memCost_bd q
        have cb3 := memCost_bd words
        have HZ := Lib.hid (show memCost q - memCost (0 : Nat) = memCost q by rw [show memCost (0 : Nat) = 0 from by decide]; omega)
        have Hq0 := Lib.hid (show q = max 0 ((M + 31) / 32) by rw [hq.out]; omega)
        have tk1 : True := trivial
        have tk2 : True := trivial
        go_wp2_with (first
          | (go_at_call 16; have _t := tk1; refine (C0.out _).mono ?_; clear tk1; rintro e w4 ⟨rfl, hb4⟩)
          | (go_at_call 16; refine (CM.out _).mono ?_; rintro e w5 ⟨rfl, hb5⟩; have hb45 := below_step hb4 hb5; have hy35 := hy3.ext hb45; have hy25 := hy2.ext hb45; have hs5 := hb45.size)
          | (go_at_call 15; refine (Grow_at0 M _ _ (g2 + 1) 0 q 0 none [] (by omega) (by omega) Hq0 hy35 (World.ownsRow_nil _ _ _ _) (Nat.lt_succ_self _) (by omega)).mono ?_; rintro e w6 ⟨he, A6, c6, hy6, ho6, hk6⟩; rw [HZ.out] at he; subst he; have hy26 := hk6.blk hy25 (by omega) (by omega))
          | (go_at_call 17; refine (HC1.out _).mono ?_; rintro e w7 ⟨rfl, hb7⟩)
          | (go_at_call 18; refine (HC2.out _).mono ?_; rintro e w8 ⟨rfl, hb8⟩; have hb78 := below_step hb7 hb8; have hy28 := hy26.ext hb78; have hy38 := hy6.ext hb78)
          | (go_at_call 19; have _t := tk2; refine (Size_any _ _ _ _ _ hy28).mono ?_; clear tk2; rintro e w9 ⟨rfl, rfl⟩)
          | (go_at_call 19; refine (Size_any _ _ _ _ _ hy38).mono ?_; rintro e w10 ⟨rfl, rfl⟩)
          | fail)
        have hB6 := (below_step hBr hb45).trans (hk6.below (by omega) (by omega))
        have hB8 := below_step hB6 hb78
        go_ret
        exact ⟨by simp, hB8⟩
open Go.ChangeShapes Go.WideShapes Go.ChangeAt

set_option maxRecDepth 100000 in
theorem lifted (os : Os) (started : os.Started) (H : Type) (enc : TypeId × Value → H) :
    ReturnsInHanded {} Try.checked os 4 .any (Rows.memCostsSpec.pre6 enc Try.prog Try.f4 Rows.memCostsRow.domain false) (Rows.memCostsSpec.post enc Try.prog Try.f4 false true false false) := by
  refine law_lift (C := Try.checked) (ts := [3, 33]) (tb := 4) (by kernel_rfl) started (by kernel_rfl) Try.func4
    (ChangeSpec.witness6 (enc := enc) (C := Try.checked) false ⟨#[], #[.int .i64 0, .slice none 0 0], []⟩ 8 (by kernel_rfl) (by kernel_rfl) (by kernel_rfl) (by kernel_rfl))
    (by kernel_rfl) (by kernel_rfl) (by kernel_rfl) (by kernel_rfl) Try.underlying4 rfl (fun ds h => by match ds, h with | [_, _], _ => rfl) ?_
  intro W vs hl h
  match vs, hl with
  | [v0, v1], _ =>
    obtain ⟨words, rfl, hwords⟩ := arg_int Try.underlying3 (h 0 _ v0 rfl rfl)
    have hl := h 1 _ v1 rfl rfl
    obtain ⟨ls, hs⟩ := arg_slice Try.underlying33 (by kernel_rfl) (opens_int enc 0 (fun _ => true) true Try.underlying3) hl
    have hwb := bounds_i64 hwords
    exact walk words v1 ls W hwb.1 hwb.2 hs

theorem over : Rows.memCostsRow.holds Try.pinned (OpenSpec.ofChange Rows.memCostsSpec) :=
  OpenClaim.holds_of_wide 4 Try.f4 rfl rfl rfl rfl rfl rfl rfl ⟨rfl, rfl, rfl, rfl, rfl⟩ rfl rfl rfl rfl rfl (by kernel_rfl) Try.func4 (by kernel_rfl)
    (of_decide_eq_true (by kernel_rfl)) (by unfold Func.isWrapper; first | (rw [if_pos (by decide +kernel)]; kernel_rfl) | (rw [if_neg (by decide +kernel)]; exact ⟨rfl, rfl⟩))
    (fun os started H enc _ => lifted os started H enc)
end Go.Proofs.Ytpliedimdhilcaa.MemCosts
namespace Go.Proofs.Ytpliedimdhilcaa
theorem memCosts_holds : Rows.MemCostsSaid := MemCosts.over
#print axioms memCosts_holds
end Go.Proofs.Ytpliedimdhilcaa
