/- SameWords, of two rows of the same words. -/
import Derived.Test.YtpliedimdhilcaaTurns
import Derived.Test.YtpliedimdhilcaaRegion
import Derived.Deep.Cut
namespace Go.Mun
open Go Go.RowKit Go.Proofs

theorem eq_self (x : Nat) (w : World) : (Op.equalIn 10000 25 (.agg (wcells x)) (.agg (wcells x))).run Try.prog w = .ok true w := by
  obtain ⟨i, hi, hs⟩ : ∃ i, Try.prog.info? 5 = some i ∧ i.size = 1 := ⟨_, rfl, rfl⟩
  have h := run_eq_tab Try.underlying25 (by kernel_rfl) Try.underlying5 hi hs (fun j => lowB x (31 - j)) (fun j => lowB x (31 - j)) 9998 w
  rw [wcells, bv_wbytes]
  rw [show ((List.range 32).all fun j => lowB x (31 - j) == lowB x (31 - j)) = true from List.all_eq_true.2 fun j _ => beq_self_eq_true _] at h
  exact h
theorem below_drew0 {a b : World} {n : Nat} (h : Below n a b) : Below n a b.drew := ⟨h.os, h.tape, h.output, h.size, h.block⟩
/-- what each operation of the region writes -/
def SSW (h1 h2 n c1 c2 k x : Nat) : Nat → Value → World → Prop
  | 0, v, _ => v = .slice (some ⟨h1, 0, none⟩) n c1
  | 1, v, _ => v = .int .i64 (k : Nat)
  | 2, v, _ => v = .pointer (some ⟨h1, k * 32, none⟩)
  | 3, v, _ => v = .agg (wcells x)
  | 4, v, _ => v = .slice (some ⟨h2, 0, none⟩) n c2
  | 5, v, _ => v = .int .i64 (k : Nat)
  | 6, v, _ => v = .pointer (some ⟨h2, k * 32, none⟩)
  | 7, v, _ => v = .agg (wcells x)
  | _, v, _ => v = .bool false
theorem SSW_stays (h1 h2 n c1 c2 k x : Nat) : ∀ i v (wa wb : World), Below wa.heap.size wa wb → SSW h1 h2 n c1 c2 k x i v wa → SSW h1 h2 n c1 c2 k x i v wb
  | 0, _, _, _, _, h => h
  | 1, _, _, _, _, h => h
  | 2, _, _, _, _, h => h
  | 3, _, _, _, _, h => h
  | 4, _, _, _, _, h => h
  | 5, _, _, _, _, h => h
  | 6, _, _, _, _, h => h
  | 7, _, _, _, _, h => h
  | _ + 8, _, _, _, _, h => h

set_option maxRecDepth 100000 in
set_option maxHeartbeats 2000000 in
theorem SameWords_self (w : World) (b1 b2 n c1 c2 : Nat) (A1 A2 : Option Addr) (l : List Nat) (hn : l.length = n) (hn1 : n ≤ 100000) (ha : w.ownsRow b1 25 32 (.slice A1 n c1) n (wrow l)) (hb : w.ownsRow b2 25 32 (.slice A2 n c2) n (wrow l)) :
    Calls Try.prog 39 #[.slice A1 n c1, .slice A2 n c2] w fun e w' => e = .returned (.bool true) ∧ Below w.heap.size w w' := by
  have HLG := Lib.hid (fun p (hp : p < n) => show l[p]? = some (l.getD p 0) by rw [List.getD_eq_getElem?_getD, List.getElem?_eq_getElem (by omega)]; rfl)
  have hu := Try.underlying25
  have hi : ∀ x, (Try.prog.info? 25).map (·.size) = some (wcells x).toList.length := fun x => by rw [Array.length_toList, wcells_size]; kernel_rfl
  clear hn
  have h0 := Below.refl w.heap.size w
  have d0 : ((n : Int) == n) = true := by simp
  go_enter Try.func39, Try.ntmps39
  go_wp2
  go_loopw [5] (fun i wr => ∃ k : Nat, k ≤ n ∧ i = .int .i64 k ∧ Below w.heap.size w wr) (fun i _ => n - (intOf i).toNat)
  case atStart => exact ⟨0, Nat.zero_le _, rfl, h0⟩
  case round =>
    obtain ⟨k, hk, rfl, hBr⟩ := hrel
    by_cases hlt : k < n
    · have hxx := HLG.out k hlt
      obtain ⟨h1, c1', e, _, _⟩ := own_pos ha (by omega)
      injection e with e1 e2 e3
      subst e1 e3
      obtain ⟨h2, c2', e, _, _⟩ := own_pos hb (by omega)
      injection e with e1 e2 e3
      subst e1 e3
      generalize l.getD k 0 = x at hxx
      have EQX := Lib.hid (eq_self x)
      replace hi := hi x
      have HR1 := Lib.hid (fun w' (hb' : Below wr.drew.heap.size wr.drew w') => row_word (own_ext ha (below_step (below_drew0 hBr) hb')) hxx)
      have HR2 := Lib.hid (fun w' (hb' : Below wr.drew.heap.size wr.drew w') => row_word (own_ext hb (below_step (below_drew0 hBr) hb')) hxx)
      have d1 : decide ((k : Int) < n) = true := decide_eq_true (by omega)
      have b1 : (0 : Int) ≤ k := by omega
      have b2 : (k : Int) < n := by omega
      go_upto_region 6 with (fail)
      refine wp_region_each (by kernel_rfl) (by kernel_rfl) (by kernel_rfl) (fun w w' => Below w.heap.size w w') (fun w => Below.refl _ _) (fun x y z h1 h2 => below_step h1 h2) (SSW h1 h2 n c1 c2 k x) (SSW_stays _ _ _ _ _ _ _) ?_ ?_
      · simp only [EachStep]
        refine ⟨?_, ?_, ?_, ?_, ?_, ?_, ?_, ?_, ?_, trivial⟩
        · intro V w' hb hd
          clear hd
          refine ⟨?_⟩
          simp only [fill]
          go_wp2
          exact ⟨rfl, rfl, Below.refl _ _, rfl⟩
        · intro V w' hb hd
          clear hd
          refine ⟨?_⟩
          simp only [fill]
          go_wp2
          exact ⟨rfl, rfl, Below.refl _ _, rfl⟩
        · intro V w' hb hd
          simp only [DepFacts, SSW, Region.binds, forall_const, and_true] at hd
          refine ⟨?_⟩
          simp only [fill, hd]
          clear hd
          go_wp2
          exact ⟨rfl, rfl, Below.refl _ _, rfl⟩
        · intro V w' hb hd
          have hr1 := HR1.out _ hb
          simp only [DepFacts, SSW, Region.binds, forall_const, and_true] at hd
          refine ⟨?_⟩
          simp only [fill, hd]
          clear hd
          simp only [Act.put, List.setIfInBounds_toArray, List.set_cons_zero, List.set_cons_succ]
          go_wp2_with (first | ((with_reducible refine gd_load ?_); refine wpList_load_mid rfl 25 (.tmp 19) rfl h1 (k * 32) rfl (wcells x).toList _ hr1 hu rfl hi ?_) | fail)
          exact ⟨rfl, rfl, Below.refl _ _, rfl⟩
        · intro V w' hb hd
          clear hd
          refine ⟨?_⟩
          simp only [fill]
          go_wp2
          exact ⟨rfl, rfl, Below.refl _ _, rfl⟩
        · intro V w' hb hd
          clear hd
          refine ⟨?_⟩
          simp only [fill]
          go_wp2
          exact ⟨rfl, rfl, Below.refl _ _, rfl⟩
        · intro V w' hb hd
          simp only [DepFacts, SSW, Region.binds, forall_const, and_true] at hd
          refine ⟨?_⟩
          simp only [fill, hd]
          clear hd
          go_wp2
          exact ⟨rfl, rfl, Below.refl _ _, rfl⟩
        · intro V w' hb hd
          have hr1 := HR2.out _ hb
          simp only [DepFacts, SSW, Region.binds, forall_const, and_true] at hd
          refine ⟨?_⟩
          simp only [fill, hd]
          clear hd
          simp only [Act.put, List.setIfInBounds_toArray, List.set_cons_zero, List.set_cons_succ]
          go_wp2_with (first | ((with_reducible refine gd_load ?_); refine wpList_load_mid rfl 25 (.tmp 23) rfl h2 (k * 32) rfl (wcells x).toList _ hr1 hu rfl hi ?_) | fail)
          exact ⟨rfl, rfl, Below.refl _ _, rfl⟩
        · intro V w' hb hd
          simp only [DepFacts, SSW, Region.binds, forall_const, and_true] at hd
          refine ⟨?_⟩
          simp only [fill, hd]
          clear hd
          have q := EQX.out
          go_wp2
          exact ⟨rfl, rfl, Below.refl _ _, rfl⟩
      · intro V w12 hb12 hV
        simp only [SFacts, SSW] at hV
        have h9 := hV.2.2.2.2.2.2.2.2.1
        clear hV
        have hB12 := below_step (below_drew0 hBr) hb12
        simp only [fill, h9]
        try simp only [Exit.then]
        try go_simp
        go_wp2
        go_roundw
        case rel => exact ⟨k + 1, by omega, by go_num, hB12⟩
        case measure => simp [intOf]; omega
    · have d1 : decide ((k : Int) < n) = false := decide_eq_false (by omega)
      go_wp2
      go_ret
      exact ⟨rfl, hBr⟩
end Go.Mun
