/- For 'StackTurns': the walk where Dup is in and Swap is in its bounds. -/
import Derived.Test.YtpliedimdhilcaaTurnsR
namespace Go.Proofs.Ytpliedimdhilcaa.StackTurns
open Go Go.RowKit Go.Mun Go.Proofs

set_option maxRecDepth 100000 in
set_option maxHeartbeats 8000000 in
theorem walk_in_in (n : Nat) (d : Nat) (hd1 : 1 ≤ d) (hd2 : d ≤ n) (s : Nat) (hsa : 1 ≤ s) (hsb : s + 1 ≤ n + 1) (w : World) (hn : n ≤ 40) :
    Calls Try.prog 8 #[.int .i64 (n : Nat), .int .i64 (d : Nat), .int .i64 (s : Nat)] w fun e w' => e = .returned (.bool true) ∧ Below w.heap.size w w' := by
  have CA := Lib.hid alive13
  have zS := zStack
  have hTI := intsTy
  have CN := Lib.hid Of_nat
  have HP := Lib.hid Push_all
  have HU := Lib.hid (fun k (h : k < 1024) => pushed_range h)
  have d1 : decide ((40 : Int) < n) = false := decide_eq_false (by omega)
  go_enter Try.func8, Try.ntmps8
  go_wp2_with (first
    | (go_at_call 14; refine (CA.out _).mono ?_; rintro e w1 ⟨rfl, hb1⟩; have hs1 := hb1.size)
    | ((with_reducible refine gd_alloc ?_); refine wpList_alloc_blk rfl 43 rfl zS ?_; intro w2 hx2 hb2 hl2)
    | fail)
  have hB2 := below_step hb1 hb2
  have hst2 : StR w2 w1.heap.size (w1.heap.size + 1) (List.range 0) none := ⟨none, 0, rfl, hx2, World.ownsRow_nil _ _ _ _⟩
  obtain ⟨g, hg⟩ : ∃ g, g = w1.heap.size := ⟨_, rfl⟩
  rw [← hg] at hst2 hl2 hs1
  simp only [← hg]
  have hz2 : g + 1 ≤ w2.heap.size := hl2
  clear hg hx2 hb1 hb2 hl2
  go_loopw [9, 10] (fun vl i wr => ∃ (k : Nat) (r : Option Nat), k ≤ n ∧ i = .int .i64 k ∧ Below w.heap.size w wr ∧ g + 1 ≤ wr.heap.size ∧ StR wr g (g + 1) (List.range k) r ∧ wr.ownsRow (g + 1) 3 1 vl k (irow (List.range k)) ∧ NotRow r vl) (fun _ i _ => n - (intOf i).toNat)
  case atStart => exact ⟨0, none, Nat.zero_le _, rfl, hB2, hz2, hst2, World.ownsRow_nil _ _ _ _, NotRow.nil _⟩
  case round =>
    clear hst2 hB2 hz2
    obtain ⟨k, r, hk, rfl, hBr, hzr, hst, hol, hnr⟩ := hrel
    by_cases hlt : k < n
    · have CK := Lib.hid (fun w => CN.out k (by omega) w)
      have HR := Lib.hid (show irow (List.range k) ++ [.int .i64 (k : Nat)] = irow (List.range (k + 1)) by rw [List.range_succ, irow_append]; rfl)
      go_wp2_with (first
        | (go_at_call 16; refine (CK.out _).mono ?_; rintro e w4 ⟨rfl, hb4⟩; have hst4 := hst.ext hb4; have hol4 := own_ext hol hb4; have hz4 := hb4.size)
        | (go_at_call 20; refine (HP.out k _ g (g + 1) _ _ hst4 (Nat.lt_succ_self _) (by omega)).mono ?_; rintro e w5 ⟨he, r5, hst5, hk5, hy5, hm5⟩; subst he; rw [HU.out k (by omega)] at hst5; have hz5 := hk5.size; have hol5 := own_way2 hol4 hy5 (Nat.lt_succ_self _) hnr; have hnr5 := hnr.moved hol4 hm5)
        | (refine wpList_row_val rfl (.tmp 40) rfl hTI (by decide) rfl rfl ?_; intro w6 hx6 hb6 hl6; have hst6 := hst5.ext hb6; have hol6 := own_ext hol5 hb6)
        | (at_builtin; refine wpList_append_rd _ rfl (.tmp 39) (.tmp 41) _ rfl (g + 1) _ _ 1 8 hTI _ _ _ rfl hol6 (some ⟨w5.heap.size, 0, none⟩) 1 1 [.int .i64 (k : Nat)] rfl rfl hx6.rd (by intro u hu; rw [List.mem_singleton.1 hu]; rfl) (by unfold maxLen; omega) (by omega) (by omega) ?_; intro vl7 w7 hol7 hg7 hat7; rw [HR.out] at hol7; have hst7 := hst6.beside hg7 (own_ne_low hol6 (Nat.lt_succ_self _)) hnr5; have hnr7 := NotRow.app hst6 hnr5 hat7)
        | fail)
      have hB5 := below_step ((below_step hBr hb4).trans (hk5.below (B := w.heap.size) (by omega) (by omega))) hb6
      have hB7 := below_own hB5 hol6 (by omega) hg7 hB5.size
      have hz7 := hg7.size
      go_roundw
      case rel => exact ⟨k + 1, r5, by omega, by go_num, hB7, by omega, hst7, hol7, hnr7⟩
      case measure => simp [intOf]; omega
    · obtain rfl : k = n := by omega
      have hrl : (List.range k).length = k := List.length_range
      obtain ⟨A0, c0, hown0⟩ := own_isSlice hol
      subst hown0
      have hst1 := hst
      obtain ⟨p, hp⟩ : ∃ p, p + d = k := ⟨k - d, by omega⟩
      have HXP := Lib.hid (show (List.range k)[p]? = some p by rw [List.getElem?_range (by omega)])
      obtain ⟨h0, c0', e0, hh1, hh2⟩ := own_pos hol (by omega)
      injection e0 with e1 e2 e3
      subst e1 e3
      have f1 : decide ((1 : Int) ≤ d) = true := decide_eq_true (by omega)
      have f2 : decide ((d : Int) ≤ k) = true := decide_eq_true (by omega)
      have f3 : (k : Int) - d = p := by omega
      have b0 : (0 : Int) ≤ p ∧ (p : Int) < k := by omega
      have HPL := Lib.hid (show pushed (List.range k) p = List.range k ++ [p] by unfold pushed; rw [if_pos (by rw [hrl]; omega)])
      have HDL := Lib.hid (show decide ((List.range k).length < 1024) = true from decide_eq_true (by rw [hrl]; omega))
      have HIA := Lib.hid (show irow (List.range k) ++ [.int .i64 (p : Nat)] = irow (List.range k ++ [p]) by rw [irow_append]; rfl)
      have HLL := Lib.hid (show (List.range k ++ [p]).length = k + 1 by rw [List.length_append, hrl]; rfl)
      have hbdL : ∀ x ∈ List.range k ++ [p], x ≤ 40 := fun x hx => by rcases List.mem_append.1 hx with h1 | h1; have := List.mem_range.1 h1; omega; have := List.mem_singleton.1 h1; omega
      have b1 : (k : Int) + 1 - 1 = k := by omega
      go_upto_region 14 with (first
        | (go_at_call 21; refine (Dup_all d p p _ g (g + 1) _ _ hst (Nat.lt_succ_self _) hzr hd1 (by rw [hrl]; exact hp) (by rw [hrl]; omega) HXP.out).mono ?_; rintro e w8 ⟨he, r8, hst8, hk8, hy8, hm8⟩; rw [HDL.out] at he; subst he; rw [HPL.out] at hst8; have hz8 := hk8.size; have hol8 := own_way2 hol hy8 (Nat.lt_succ_self _) hnr; have hnr8 := hnr.moved hol hm8; have hcp8 := hol8.cellAt p (by omega); rw [irow_get HXP.out] at hcp8; have hB8 := hBr.trans (hk8.below (B := w.heap.size) (by omega) (by omega)))
        | (refine wpList_row_val rfl (.tmp 58) rfl hTI (by decide) rfl rfl ?_; intro w9 hx9 hb9 hl9; have hst9 := hst8.ext hb9; have hol9 := own_ext hol8 hb9)
        | (at_builtin; refine wpList_append_rd _ rfl (.tmp 52) (.tmp 59) _ rfl (g + 1) _ _ 1 8 hTI _ _ _ rfl hol9 (some ⟨w8.heap.size, 0, none⟩) 1 1 [.int .i64 (p : Nat)] rfl rfl hx9.rd (by intro u hu; rw [List.mem_singleton.1 hu]; rfl) (by unfold maxLen; omega) (by omega) (by omega) ?_; intro vl10 w10 hol10 hg10 hat10; rw [HIA.out] at hol10; have hst10 := hst9.beside hg10 (own_ne_low hol9 (Nat.lt_succ_self _)) hnr8; have hnr10 := NotRow.app hst9 hnr8 hat10; have hB10 := below_own (below_step hB8 hb9) hol9 (by omega) hg10 (below_step hB8 hb9).size; have hz10 := Nat.le_trans (Nat.le_trans hz8 hb9.size) hg10.size)
        | fail)
      obtain ⟨A10, c10, e10⟩ := own_isSlice hol10
      subst e10
      obtain ⟨LL, hLL⟩ : ∃ LL, LL = (List.range k ++ [p]) := ⟨_, rfl⟩
      rw [← hLL] at hst10 hol10 hbdL
      have HLL2 := Lib.hid (show LL.length = k + 1 by rw [hLL]; exact HLL.out)
      clear hLL
      have hzz : g + 1 ≤ w10.heap.size := Nat.le_trans hzr hz10
      have hq : k + 1 = k + 1 := rfl
      obtain ⟨j, hj⟩ : ∃ j, j + s = k := ⟨k - s, by omega⟩
      have hqL : k < LL.length := by rw [HLL2.out]; omega
      have hjL : j < LL.length := by rw [HLL2.out]; omega
      obtain ⟨x, hx⟩ : ∃ x, LL[k]? = some x := ⟨_, List.getElem?_eq_getElem hqL⟩
      obtain ⟨y, hy⟩ : ∃ y, LL[j]? = some y := ⟨_, List.getElem?_eq_getElem hjL⟩
      obtain ⟨h, c1, e1, hh1, hh2⟩ := own_pos hol10 (by omega)
      injection e1 with e1 e2 e3
      subst e1 e3
      have g1 : decide ((1 : Int) ≤ s) = true := decide_eq_true (by omega)
      have g2 : decide ((s : Int) ≤ k) = true := decide_eq_true (by omega)
      have g3 : (((k + 1 : Nat)) : Int) - 1 = k := by omega
      have g4 : (k : Int) - s = j := by omega
      have b5 : (0 : Int) ≤ k ∧ (0 : Int) ≤ j := by omega
      have b6 : (k : Int) < ((k + 1 : Nat) : Int) ∧ (j : Int) < ((k + 1 : Nat) : Int) := by omega
      have HXY := Lib.hid (And.intro hx hy)
      clear hx hy hqL hjL
      go_upto_region 17 with (first
        | (go_at_call 35; refine (Swap_all s k j x y _ g (g + 1) LL _ hst10 (Nat.lt_succ_self _) hzz hsa (hq.trans HLL2.out.symm) hj (by rw [HLL2.out]; omega) HXY.out.1 HXY.out.2).mono ?_; rintro e w11 ⟨rfl, hst11, hk11, hy11⟩; have hol11 := own_way2 hol10 hy11 (Nat.lt_succ_self _) hnr10; have hB11 := hB10.trans (hk11.below (B := w.heap.size) (by omega) (by omega)); have hz11 := hk11.size)
        | fail)
      have hx := HXY.out.1
      have hy := HXY.out.2
      try simp only [g3]
      refine wp_region_phase (by kernel_rfl) (by kernel_rfl) (by kernel_rfl) (fun w w' => w.grownBy w' (some h)) (fun _ => World.grownBy.refl _ _) (fun _ _ _ h k => h.trans k) (ST17 h (k + 1) c10 k j s x y) (ST17_stays _ _ _ _ _ _ _ _) (JT17 (g + 1) h (k + 1) c10 LL (LL.set k y) ((LL.set k y).set j x))
        ⟨fun _ => own_drew hol11, fun h => (by cases h), fun h => (by cases h)⟩ ?_ ?_
      · simp only [PhStep]
        refine ⟨?_, ?_, ?_, ?_, ?_, ?_, ?_, ?_, ?_, ?_, ?_, ?_, ?_, ?_, ?_, ?_, ?_, ?_, ?_, ?_, trivial⟩
        · intro L V w' hb hj hl hdo hcl hd
          clear hdo hcl
          clear hd
          refine ⟨?_⟩
          simp only [fill]
          go_wp2
          exact ⟨⟨rfl, rfl, World.grownBy.refl _ _, rfl⟩, (JT17_far _ _ _ _ _ _ _ hj (by decide) (by decide))⟩
        · intro L V w' hb hj hl hdo hcl hd
          clear hdo hcl
          clear hd
          refine ⟨?_⟩
          simp only [fill]
          go_wp2
          exact ⟨⟨rfl, rfl, World.grownBy.refl _ _, rfl⟩, (JT17_far _ _ _ _ _ _ _ hj (by decide) (by decide))⟩
        · intro L V w' hb hj hl hdo hcl hd
          clear hdo hcl
          clear hd
          refine ⟨?_⟩
          simp only [fill]
          go_wp2
          exact ⟨⟨rfl, rfl, World.grownBy.refl _ _, rfl⟩, (JT17_far _ _ _ _ _ _ _ hj (by decide) (by decide))⟩
        · intro L V w' hb hj hl hdo hcl hd
          clear hdo hcl
          clear hd
          refine ⟨?_⟩
          simp only [fill]
          go_wp2
          exact ⟨⟨rfl, rfl, World.grownBy.refl _ _, rfl⟩, (JT17_far _ _ _ _ _ _ _ hj (by decide) (by decide))⟩
        · intro L V w' hb hj hl hdo hcl hd
          clear hdo hcl
          clear hd
          refine ⟨?_⟩
          simp only [fill]
          go_wp2
          exact ⟨⟨rfl, rfl, World.grownBy.refl _ _, rfl⟩, (JT17_far _ _ _ _ _ _ _ hj (by decide) (by decide))⟩
        · intro L V w' hb hj hl hdo hcl hd
          clear hdo hcl
          simp only [DepFacts, ST17, Region.binds, forall_const, and_true] at hd
          refine ⟨?_⟩
          simp only [fill, hd]
          clear hd
          go_wp2
          exact ⟨⟨rfl, rfl, World.grownBy.refl _ _, rfl⟩, (JT17_far _ _ _ _ _ _ _ hj (by decide) (by decide))⟩
        · intro L V w' hb hj hl hdo hcl hd
          clear hdo hcl
          clear hd
          refine ⟨?_⟩
          simp only [fill]
          go_wp2
          exact ⟨⟨rfl, rfl, World.grownBy.refl _ _, rfl⟩, (JT17_far _ _ _ _ _ _ _ hj (by decide) (by decide))⟩
        · intro L V w' hb hj hl hdo hcl hd
          clear hdo hcl
          clear hd
          refine ⟨?_⟩
          simp only [fill]
          go_wp2
          exact ⟨⟨rfl, rfl, World.grownBy.refl _ _, rfl⟩, (JT17_far _ _ _ _ _ _ _ hj (by decide) (by decide))⟩
        · intro L V w' hb hj hl hdo hcl hd
          clear hdo hcl
          clear hd
          refine ⟨?_⟩
          simp only [fill]
          go_wp2
          exact ⟨⟨rfl, rfl, World.grownBy.refl _ _, rfl⟩, (JT17_far _ _ _ _ _ _ _ hj (by decide) (by decide))⟩
        · intro L V w' hb hj hl hdo hcl hd
          clear hdo hcl
          simp only [DepFacts, ST17, Region.binds, forall_const, and_true] at hd
          refine ⟨?_⟩
          simp only [fill, hd]
          clear hd
          go_wp2
          exact ⟨⟨rfl, rfl, World.grownBy.refl _ _, rfl⟩, (JT17_far _ _ _ _ _ _ _ hj (by decide) (by decide))⟩
        · intro L V w' hb hj hl hdo hcl hd
          clear hdo hcl
          simp only [DepFacts, ST17, Region.binds, forall_const, and_true] at hd
          refine ⟨?_⟩
          simp only [fill, hd]
          clear hd
          go_wp2
          exact ⟨⟨rfl, rfl, World.grownBy.refl _ _, rfl⟩, (JT17_far _ _ _ _ _ _ _ hj (by decide) (by decide))⟩
        · intro L V w' hb hj hl hdo hcl hd
          have hoo := hj.1 (Bool.eq_false_iff.2 fun e => by have := hcl 17 11 (by kernel_rfl) e; rw [this] at hl; cases hl)
          have hc1 := hoo.cellAt j (by omega)
          rw [irow_get hy] at hc1
          clear hdo hcl
          simp only [DepFacts, ST17, Region.binds, forall_const, and_true] at hd
          refine ⟨?_⟩
          simp only [fill, hd]
          clear hd
          go_wp2
          exact ⟨⟨rfl, rfl, World.grownBy.refl _ _, rfl⟩, JT17_far _ _ _ _ _ _ _ hj (by decide) (by decide)⟩
        · intro L V w' hb hj hl hdo hcl hd
          clear hdo hcl
          clear hd
          refine ⟨?_⟩
          simp only [fill]
          go_wp2
          exact ⟨⟨rfl, rfl, World.grownBy.refl _ _, rfl⟩, (JT17_far _ _ _ _ _ _ _ hj (by decide) (by decide))⟩
        · intro L V w' hb hj hl hdo hcl hd
          clear hdo hcl
          clear hd
          refine ⟨?_⟩
          simp only [fill]
          go_wp2
          exact ⟨⟨rfl, rfl, World.grownBy.refl _ _, rfl⟩, (JT17_far _ _ _ _ _ _ _ hj (by decide) (by decide))⟩
        · intro L V w' hb hj hl hdo hcl hd
          clear hdo hcl
          simp only [DepFacts, ST17, Region.binds, forall_const, and_true] at hd
          refine ⟨?_⟩
          simp only [fill, hd]
          clear hd
          go_wp2
          exact ⟨⟨rfl, rfl, World.grownBy.refl _ _, rfl⟩, (JT17_far _ _ _ _ _ _ _ hj (by decide) (by decide))⟩
        · intro L V w' hb hj hl hdo hcl hd
          have hoo := hj.1 (Bool.eq_false_iff.2 fun e => by have := hcl 17 15 (by kernel_rfl) e; rw [this] at hl; cases hl)
          have hc1 := hoo.cellAt k (by omega)
          rw [irow_get hx] at hc1
          clear hdo hcl
          simp only [DepFacts, ST17, Region.binds, forall_const, and_true] at hd
          refine ⟨?_⟩
          simp only [fill, hd]
          clear hd
          go_wp2
          exact ⟨⟨rfl, rfl, World.grownBy.refl _ _, rfl⟩, JT17_far _ _ _ _ _ _ _ hj (by decide) (by decide)⟩
        · intro L V w' hb hj hl hdo hcl hd
          clear hdo hcl
          simp only [DepFacts, ST17, Region.binds, forall_const, and_true] at hd
          refine ⟨?_⟩
          simp only [fill, hd]
          clear hd
          go_wp2
          exact ⟨⟨rfl, rfl, World.grownBy.refl _ _, rfl⟩, (JT17_far _ _ _ _ _ _ _ hj (by decide) (by decide))⟩
        · intro L V w' hb hj hl hdo hcl hd
          have hoo := hj.1 hl
          have hl2 : L 19 = false := Bool.eq_false_iff.2 fun e => by have := hcl 19 17 (by kernel_rfl) e; rw [this] at hl; cases hl
          have hc1 := hoo.cellAt k (by omega)
          rw [irow_get hx] at hc1
          have hf1 := hoo.frozenAt k
          clear hdo hcl
          simp only [DepFacts, ST17, Region.binds, forall_const, and_true] at hd
          refine ⟨?_⟩
          simp only [fill, hd]
          clear hd
          go_wp2
          refine ⟨⟨rfl, rfl, grownBy_setCell _ ⟨h, k, none⟩ _, trivial⟩, ?_⟩
          unfold JT17
          rw [updL_same, updL_ne (by decide), hl2]
          refine ⟨fun e => (by cases e), fun _ _ => ?_, fun e => (by cases e)⟩
          rw [irow_set]
          exact (hoo.stored k (.int .i64 (y : Nat))).1
        · intro L V w' hb hj hl hdo hcl hd
          clear hdo hcl
          simp only [DepFacts, ST17, Region.binds, forall_const, and_true] at hd
          refine ⟨?_⟩
          simp only [fill, hd]
          clear hd
          go_wp2
          exact ⟨⟨rfl, rfl, World.grownBy.refl _ _, rfl⟩, (JT17_far _ _ _ _ _ _ _ hj (by decide) (by decide))⟩
        · intro L V w' hb hj hl hdo hcl hd
          have h1 : L 17 = true := hdo 17 (by kernel_rfl)
          have hoo := hj.2.1 h1 hl
          have hc1 := hoo.cellAt j (by omega)
          rw [irow_get (show (LL.set k y)[j]? = some y by rw [List.getElem?_set_ne (by omega)]; exact hy)] at hc1
          have hf1 := hoo.frozenAt j
          clear hdo hcl
          simp only [DepFacts, ST17, Region.binds, forall_const, and_true] at hd
          refine ⟨?_⟩
          simp only [fill, hd]
          clear hd
          go_wp2
          refine ⟨⟨rfl, rfl, grownBy_setCell _ ⟨h, j, none⟩ _, trivial⟩, ?_⟩
          unfold JT17
          rw [updL_same, updL_ne (by decide), h1]
          refine ⟨fun e => (by cases e), fun _ e => (by cases e), fun _ => ?_⟩
          rw [irow_set (LL.set k y)]
          exact (hoo.stored j (.int .i64 (x : Nat))).1
      intro L V w12 hL hb12 hs12 hj12
      have h19 := hj12.2.2 (hL 19 (by decide))
      have hg12 : w11.grownBy w12 (some h) := ⟨hb12.os, hb12.tape, hb12.output, hb12.size, hb12.block⟩
      have hst12 := hst11.beside (v := .slice (some ⟨h, 0, none⟩) (k + 1) c10) hg12 (own_ne_low hol11 (Nat.lt_succ_self _)) hnr10
      have hB12 := hB11.grown hg12 hB11.size (fun k hk => by cases hk; omega)
      have hz12 := hg12.size
      obtain ⟨LF, hLF⟩ : ∃ LF, LF = (LL.set k y).set j x := ⟨_, rfl⟩
      rw [← hLF] at hst12 h19
      have HLF := Lib.hid (show LF.length = k + 1 by rw [hLF, List.length_set, List.length_set]; exact HLL2.out)
      have HBF := Lib.hid (show ∀ u ∈ LF, u ≤ 40 by rw [hLF]; intro u hu; rcases List.mem_or_eq_of_mem_set hu with h1 | h1; rcases List.mem_or_eq_of_mem_set h1 with h2 | h2; exact hbdL u h2; rw [h2]; exact hbdL y (List.mem_of_getElem? hy); rw [h1]; exact hbdL x (List.mem_of_getElem? hx))
      clear hLF hj12 hL hs12 hb12 hbdL hx hy hst11 hol11
      simp only [fill]
      try simp only [Exit.then]
      go_simp
      have hzF : g + 1 ≤ w12.heap.size := by omega
      have hst14 := hst12
      obtain ⟨As4, cs4, hrs4, hms4, hos4⟩ := hst14
      rw [HLF.out] at hms4
      clear hrs4 hos4
      go_upto_region 20 with (first
        | (go_at_call 22; refine (Len_any _ _ _ _ _ hms4).mono ?_; rintro e w13 ⟨rfl, rfl⟩)
        | fail)
      have HTK := Lib.hid (show LF.take (k + 1) = LF from List.take_of_length_le (by rw [HLF.out]; omega))
      have hst15 := hst12
      rw [← HTK.out] at hst15
      go_wp2
      go_loopw [14] (fun i w2 => ∃ t : Nat, t ≤ k + 1 ∧ i = .int .i64 ((t : Int) - 1) ∧ Below w.heap.size w w2 ∧ g + 1 ≤ w2.heap.size ∧ StR w2 g (g + 1) (LF.take t) _ ∧ w2.ownsRow (g + 1) 3 1 (.slice (some ⟨h, 0, none⟩) (k + 1) c10) (k + 1) (irow LF)) (fun i _ => (intOf i + 1).toNat)
      case atStart => exact ⟨k + 1, Nat.le_refl _, by go_num, hB12, hzF, hst15, h19⟩
      case round =>
        obtain ⟨t, ht, rfl, hBr2, hzr2, hst2, hol2⟩ := hrel
        by_cases ht0 : t = 0
        · subst ht0
          obtain ⟨As5, cs5, h5, hms5, h6⟩ := hst2
          have e0 : (LF.take 0).length = 0 := rfl
          rw [e0] at hms5
          clear h5 h6
          go_wp2_with (first
            | (go_at_call 36; refine (Pop_no 1 _ _ _ _ _ (by omega) (by omega) hms5 (.inr (by omega))).mono ?_; rintro e w21 ⟨rfl, rfl⟩)
            | fail)
          go_ret
          exact ⟨rfl, hBr2⟩
        · obtain ⟨j2, rfl⟩ : ∃ j2, t = j2 + 1 := ⟨t - 1, by omega⟩
          have e1 : (((j2 + 1 : Nat) : Int) - 1) = j2 := by omega
          rw [e1]
          have hjF : j2 < LF.length := by rw [HLF.out]; omega
          obtain ⟨x, hx⟩ : ∃ x, LF[j2]? = some x := ⟨_, List.getElem?_eq_getElem hjF⟩
          have HTL := Lib.hid (show (LF.take (j2 + 1)).length = j2 + 1 by rw [List.length_take]; omega)
          have HDR := Lib.hid (drop_take_one hx)
          have HTT := Lib.hid (show (LF.take (j2 + 1)).take j2 = LF.take j2 by rw [List.take_take, Nat.min_eq_left (by omega)])
          have hxb : x ≤ 40 := HBF.out x (List.mem_of_getElem? hx)
          have HIX := Lib.hid (irow_get hx)
          have _u := hol2
          have b7 : (0 : Int) ≤ j2 ∧ (j2 : Int) < ((k + 1 : Nat) : Int) := by omega
          clear hx hjF
          go_upto_region 24 with (first
            | (go_at_call 36; refine (Pop_all 1 j2 _ g (g + 1) _ _ hst2 (Nat.lt_succ_self _) hzr2 HTL.out.symm (by rw [HTL.out]; omega)).mono ?_; rintro e w21 ⟨A3, c3, rfl, ho21, hst21, hk21, hy21⟩; rw [HDR.out] at ho21; rw [HTT.out] at hst21; have hz21 := hk21.size; have hB21 := hBr2.trans (hk21.below (B := w.heap.size) (by omega) (by omega)))
            | fail)
          obtain ⟨h3, c3', e3, hh3, hh4⟩ := own_pos ho21 (by omega)
          injection e3 with e4 e5 e6
          subst e4 e6
          have hol21 := own_way2 hol2 hy21 (Nat.lt_succ_self _) (fun x _ e => by cases e)
          have ho21d := own_drew ho21
          have hol21d := own_drew hol21
          have hB21d := hB21.drew
          have HW3 := Lib.hid (fun w' (hb : Below w21.drew.heap.size w21.drew w') => by
            have := row_word (own_ext ho21d hb) (k := 0) (x := x) rfl
            rwa [Nat.zero_mul] at this)
          have HI3 := Lib.hid (fun w' (hb : Below w21.drew.heap.size w21.drew w') => by
            have := (own_ext hol21d hb).cellAt j2 (by omega)
            rw [HIX.out] at this
            exact this)
          have CX := Lib.hid (fun w => CN.out x (by omega) w)
          have EQX := Lib.hid (fun w => eq_word x x (by omega) (by omega) w)
          rw [decide_eq_true rfl] at EQX
          refine wp_region_loose (by kernel_rfl) (by kernel_rfl) (by kernel_rfl) rfl (fun w w' => Below w.heap.size w w') (fun w => Below.refl _ _) (fun x y z h1 h2 => below_step h1 h2) (ST24 h (k + 1) c10 h3 c3 j2 x) (ST24_stays _ _ _ _ _ _ _) ?_ ?_
          · refine ⟨?_, ?_, ?_, ?_, ?_, ?_, ?_, ?_, ?_, ?_, ?_, ?_, ?_, ?_, ?_, ?_, ?_, ?_, trivial⟩
            · intro V wx b hb hd hs hdef hsz
              clear hd
              have s16 : b.tmps[16]? = some (.bool true) := hs.1
              clear hs
              refine ⟨?_⟩
              go_wp2
              exact op_post hsz (Below.refl _ _) rfl
            · intro V wx b hb hd hs hdef hsz
              simp only [DepFacts, ST24, Region.binds, forall_const, and_true] at hd
              have d0 := hd
              clear hd
              have s128 : b.tmps[128]? = some (V 0) := hs.1
              rw [d0] at s128
              clear hs
              refine ⟨?_⟩
              go_wp2
              exact op_post hsz (Below.refl _ _) rfl
            · intro V wx b hb hd hs hdef hsz
              simp only [DepFacts, ST24, Region.binds, forall_const, and_true] at hd
              have d1 := hd
              clear hd
              have s129 : b.tmps[129]? = some (V 1) := hs.1
              rw [d1] at s129
              clear hs
              refine ⟨?_⟩
              go_wp2
              exact op_post hsz (Below.refl _ _) rfl
            · intro V wx b hb hd hs hdef hsz
              simp only [DepFacts, ST24, Region.binds, forall_const, and_true] at hd
              have d2 := hd
              clear hd
              have s15 : b.tmps[15]? = some (.slice (some ⟨h3, 0, none⟩) 1 c3) := hs.1
              have s130 : b.tmps[130]? = some (V 2) := hs.2.1
              rw [d2] at s130
              clear hs
              refine ⟨?_⟩
              go_wp2
              exact op_post hsz (Below.refl _ _) rfl
            · intro V wx b hb hd hs hdef hsz
              simp only [DepFacts, ST24, Region.binds, forall_const, and_true] at hd
              have d3 := hd.1
              have d2 := hd.2
              clear hd
              have s131 : b.tmps[131]? = some (V 3) := hs.1
              have s130 : b.tmps[130]? = some (V 2) := hs.2.1
              rw [d3] at s131
              rw [d2] at s130
              clear hs
              refine ⟨?_⟩
              go_wp2
              exact op_post hsz (Below.refl _ _) rfl
            · intro V wx b hb hd hs hdef hsz
              simp only [DepFacts, ST24, Region.binds, forall_const, and_true] at hd
              have d4 := hd.1
              have d2 := hd.2
              clear hd
              have s132 : b.tmps[132]? = some (V 4) := hs.1
              have s130 : b.tmps[130]? = some (V 2) := hs.2.1
              rw [d4] at s132
              rw [d2] at s130
              clear hs
              refine ⟨?_⟩
              go_wp2
              exact op_post hsz (Below.refl _ _) rfl
            · intro V wx b hb hd hs hdef hsz
              simp only [DepFacts, ST24, Region.binds, forall_const, and_true] at hd
              have d2 := hd.1
              have d5 := hd.2
              clear hd
              have s130 : b.tmps[130]? = some (V 2) := hs.1
              have s133 : b.tmps[133]? = some (V 5) := hs.2.1
              rw [d2] at s130
              rw [d5] at s133
              clear hs
              refine ⟨?_⟩
              go_wp2
              exact op_post hsz (Below.refl _ _) rfl
            · intro V wx b hb hd hs hdef hsz
              simp only [DepFacts, ST24, Region.binds, forall_const, and_true] at hd
              have d6 := hd.1
              clear hd
              have s134 : b.tmps[134]? = some (V 6) := hs.1
              rw [d6] at s134
              clear hs
              refine ⟨?_⟩
              go_wp2
              exact op_post hsz (Below.refl _ _) rfl
            · intro V wx b hb hd hs hdef hsz
              simp only [DepFacts, ST24, Region.binds, forall_const, and_true] at hd
              have d7 := hd
              clear hd
              have s15 : b.tmps[15]? = some (.slice (some ⟨h3, 0, none⟩) 1 c3) := hs.1
              have s135 : b.tmps[135]? = some (V 7) := hs.2.1
              rw [d7] at s135
              clear hs
              refine ⟨?_⟩
              go_wp2
              exact op_post hsz (Below.refl _ _) rfl
            · intro V wx b hb hd hs hdef hsz
              simp only [DepFacts, ST24, Region.binds, forall_const, and_true] at hd
              have d8 := hd.1
              have d7 := hd.2
              clear hd
              have s136 : b.tmps[136]? = some (V 8) := hs.1
              have s135 : b.tmps[135]? = some (V 7) := hs.2.1
              rw [d8] at s136
              rw [d7] at s135
              clear hs
              refine ⟨?_⟩
              go_wp2
              exact op_post hsz (Below.refl _ _) rfl
            · intro V wx b hb hd hs hdef hsz
              simp only [DepFacts, ST24, Region.binds, forall_const, and_true] at hd
              have d9 := hd.1
              have d7 := hd.2
              clear hd
              have s137 : b.tmps[137]? = some (V 9) := hs.1
              have s135 : b.tmps[135]? = some (V 7) := hs.2.1
              rw [d9] at s137
              rw [d7] at s135
              clear hs
              refine ⟨?_⟩
              have hr1 := HW3.out _ hb
              refine wpList_load_mid_want (by simp [Region.wanted, yielded, s135]) 25 (.tmp 137) rfl h3 0 (by simp [Act.eval, s137]) (wcells x).toList _ hr1 Try.underlying25 rfl (by rw [Array.length_toList, wcells_size]; kernel_rfl) ?_
              refine wpList_nil ?_
              exact op_put hdef hsz (Below.refl _ _) rfl
            · intro V wx b hb hd hs hdef hsz
              simp only [DepFacts, ST24, Region.binds, forall_const, and_true] at hd
              have d7 := hd
              clear hd
              have s9 : b.tmps[9]? = some (.slice (some ⟨h, 0, none⟩) (k + 1) c10) := hs.1
              have s135 : b.tmps[135]? = some (V 7) := hs.2.1
              rw [d7] at s135
              clear hs
              refine ⟨?_⟩
              go_wp2
              exact op_post hsz (Below.refl _ _) rfl
            · intro V wx b hb hd hs hdef hsz
              simp only [DepFacts, ST24, Region.binds, forall_const, and_true] at hd
              have d7 := hd
              clear hd
              have s14 : b.tmps[14]? = some (.int .i64 (j2 : Nat)) := hs.1
              have s135 : b.tmps[135]? = some (V 7) := hs.2.1
              rw [d7] at s135
              clear hs
              refine ⟨?_⟩
              go_wp2
              exact op_post hsz (Below.refl _ _) rfl
            · intro V wx b hb hd hs hdef hsz
              simp only [DepFacts, ST24, Region.binds, forall_const, and_true] at hd
              have d11 := hd.1
              have d12 := hd.2.1
              have d7 := hd.2.2
              clear hd
              have s139 : b.tmps[139]? = some (V 11) := hs.1
              have s140 : b.tmps[140]? = some (V 12) := hs.2.1
              have s135 : b.tmps[135]? = some (V 7) := hs.2.2.1
              rw [d11] at s139
              rw [d12] at s140
              rw [d7] at s135
              clear hs
              refine ⟨?_⟩
              go_wp2
              exact op_post hsz (Below.refl _ _) rfl
            · intro V wx b hb hd hs hdef hsz
              simp only [DepFacts, ST24, Region.binds, forall_const, and_true] at hd
              have d13 := hd.1
              have d7 := hd.2
              clear hd
              have s141 : b.tmps[141]? = some (V 13) := hs.1
              have s135 : b.tmps[135]? = some (V 7) := hs.2.1
              rw [d13] at s141
              rw [d7] at s135
              clear hs
              refine ⟨?_⟩
              have hc1 := HI3.out _ hb
              go_wp2
              exact op_post hsz (Below.refl _ _) rfl
            · intro V wx b hb hd hs hdef hsz
              simp only [DepFacts, ST24, Region.binds, forall_const, and_true] at hd
              have d14 := hd.1
              have d7 := hd.2.1
              clear hd
              have s142 : b.tmps[142]? = some (V 14) := hs.1
              have s135 : b.tmps[135]? = some (V 7) := hs.2.1
              rw [d14] at s142
              rw [d7] at s135
              clear hs
              refine ⟨?_⟩
              go_wp2_with (first | (go_at_call 16; refine (CX.out _).mono ?_; rintro e w9 ⟨rfl, hb9⟩) | fail)
              exact op_post hsz hb9 rfl
            · intro V wx b hb hd hs hdef hsz
              simp only [DepFacts, ST24, Region.binds, forall_const, and_true] at hd
              have d10 := hd.1
              have d15 := hd.2.1
              have d7 := hd.2.2
              clear hd
              have s138 : b.tmps[138]? = some (V 10) := hs.1
              have s143 : b.tmps[143]? = some (V 15) := hs.2.1
              have s135 : b.tmps[135]? = some (V 7) := hs.2.2.1
              rw [d10] at s138
              rw [d15] at s143
              rw [d7] at s135
              clear hs
              refine ⟨?_⟩
              have q := EQX.out
              go_wp2
              exact op_post hsz (Below.refl _ _) rfl
            · intro V wx b hb hd hs hdef hsz
              simp only [DepFacts, ST24, Region.binds, forall_const, and_true] at hd
              have d7 := hd.1
              have d16 := hd.2
              clear hd
              have s135 : b.tmps[135]? = some (V 7) := hs.1
              have s144 : b.tmps[144]? = some (V 16) := hs.2.1
              rw [d7] at s135
              rw [d16] at s144
              clear hs
              refine ⟨?_⟩
              go_wp2
              exact op_post hsz (Below.refl _ _) rfl
          · intro V w22 hb22 hV
            simp only [SFacts, ST24] at hV
            have h17 := hV.2.2.2.2.2.2.2.2.2.2.2.2.2.2.2.2.2.1
            clear hV
            have hB22 := below_step hB21d hb22
            have hst22 := hst21.ext (w' := w22) ⟨hb22.os, hb22.tape, hb22.output, hb22.size, hb22.block⟩
            have hol22 := own_ext hol21d hb22
            have hz22 : w21.heap.size ≤ w22.heap.size := hb22.size
            simp only [fill, h17]
            try simp only [Exit.then]
            go_simp
            go_wp2
            go_roundw
            case rel =>
              first
                | exact ⟨j2, by omega, by go_num, hB22, by omega, hst22, hol22⟩
                | ((repeat apply Exists.intro); exact ⟨⟨j2, by omega, by go_num, hB22, by omega, hst22, hol22⟩, rfl⟩)
            case measure => first | (simp [intOf]; done) | (simp [intOf]; omega)
end Go.Proofs.Ytpliedimdhilcaa.StackTurns
