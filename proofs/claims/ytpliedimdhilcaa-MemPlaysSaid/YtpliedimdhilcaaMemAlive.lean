/- The document's example, and a memory's growth from its start on. -/
import Derived.Test.YtpliedimdhilcaaMemWalks
namespace Go.Mun
open Go Go.RowKit Go.Proofs

theorem memCost_zero : memCost 0 = 0 := by decide
theorem Grow_at0 (y : Nat) (w : World) (g base q q' c : Nat) (A : Option Addr) (xs : List Value) (hy : y ≤ 1048576) (hq : q ≤ 32768) (hq' : Hid (q' = max q ((y + 31) / 32)))
    (hm : Blk w g 35 #[.slice A (32 * q) c]) (ho : w.ownsRow base 5 1 (.slice A (32 * q) c) (32 * q) xs) (hg : g < base) (hbs : base ≤ w.heap.size) :
    Calls Try.prog 15 #[.pointer (some ⟨g, 0, none⟩), .agg (wcells 0), .agg (wcells y)] w fun e w' =>
      e = .returned (.tuple #[.int .i64 (memCost q' - memCost q), .bool true]) ∧ ∃ A' c', Blk w' g 35 #[.slice A' (32 * q') c'] ∧
        w'.ownsRow base 5 1 (.slice A' (32 * q') c') (32 * q') (xs ++ List.replicate (32 * (q' - q)) (.int .u8 0)) ∧ Kept base g w w' := by
  by_cases h : y = 0
  · have e : q' = q := by rw [hq'.out, h]; omega
    refine (Grow_zero 0 y w _ (by omega) (Lib.hid h)).mono ?_
    rintro e w' ⟨rfl, hb⟩
    subst e
    refine ⟨by rw [Int.sub_self], A, c, hm.ext hb, ?_, Kept.of_below (hb.mono hbs)⟩
    rw [Nat.sub_self, Nat.mul_zero, List.replicate_zero, List.append_nil]
    exact own_ext ho hb
  · have := Grow_go 0 y w g base q q' c A xs (by omega) (by omega) (by omega) hq (Lib.hid (by rw [hq'.out]; simp)) hm ho hg hbs
    exact this
theorem memTy : AggTy Try.prog 35 1 := ⟨⟨_, Try.underlying35, rfl⟩, by kernel_rfl⟩
theorem zMem : (Try.prog.info? 35).bind (·.zero) = some (.agg #[.slice none 0 0]) := by kernel_rfl
theorem Of_zero (w : World) : Calls Try.prog 16 #[.int .i64 0] w fun e w' => e = .returned (.agg (wcells 0)) ∧ Below w.heap.size w w' :=
  RefOf_any 0 w (by omega) (by omega)
theorem Of_nat (m : Nat) (hm : m < 2 ^ 63) (w : World) : Calls Try.prog 16 #[.int .i64 (m : Nat)] w fun e w' => e = .returned (.agg (wcells m)) ∧ Below w.heap.size w w' := by
  have := RefOf_any (m : Int) w (by omega) (by omega)
  rwa [ofN_nat m (by omega)] at this

set_option maxRecDepth 100000 in
set_option maxHeartbeats 1000000 in
theorem alive13 (w : World) : Calls Try.prog 14 #[] w fun e w' => e = .returned (.bool true) ∧ Below w.heap.size w w' := by
  have C0 := Lib.hid Of_zero
  have C1 := Lib.hid (fun w => Of_nat 33 (by decide) w)
  have zM := zMem
  have tk1 : True := trivial
  have HC := Lib.hid (show memCost (2 : Nat) - memCost (0 : Nat) = 6 by decide)
  go_enter Try.func14, Try.ntmps14
  go_wp2_with (first
    | ((with_reducible refine gd_alloc ?_); refine wpList_alloc_blk rfl 35 rfl zM ?_; intro w1 hx1 hb1 hl1; have hz1 := hx1.lt)
    | (go_at_call 16; have _t := tk1; refine (C0.out _).mono ?_; clear tk1; rintro e w2 ⟨rfl, hb2⟩)
    | (go_at_call 16; refine (C1.out _).mono ?_; rintro e w3 ⟨rfl, hb3⟩; have hb23 := below_step hb2 hb3; have hx3 := hx1.ext hb23; have hs3 := hb23.size)
    | (go_at_call 15; refine (Grow_at0 33 _ _ (w.heap.size + 1) 0 2 0 none [] (by decide) (by decide) (Lib.hid (by decide)) hx3 (World.ownsRow_nil _ _ _ _) (Nat.lt_succ_self _) (by omega)).mono ?_; rintro e w4 ⟨he, A', c', hx4, ho4, hk4⟩; rw [HC.out] at he; subst he)
    | (go_at_call 19; refine (Size_any _ _ _ _ _ hx4).mono ?_; rintro e w5 ⟨rfl, rfl⟩)
    | fail)
  have hB := (below_step hb1 hb23).trans (hk4.below (Nat.le_succ _) (Nat.le_refl _))
  go_ret
  exact ⟨rfl, hB⟩
end Go.Mun
