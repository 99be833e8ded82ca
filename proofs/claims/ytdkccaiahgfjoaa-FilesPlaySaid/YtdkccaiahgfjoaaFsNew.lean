/- New files; the calls that read or write the head alone. -/
import Derived.Test.YtdkccaiahgfjoaaFsRel
namespace Go.Mun
open Go Go.RowKit Go.Proofs Go.Maps

theorem fsTy : AggTy Try.prog 59 8 := ⟨⟨_, Try.underlying59, rfl⟩, by kernel_rfl⟩
theorem crashTy : AggTy Try.prog 35 3 := ⟨⟨_, Try.underlying35, rfl⟩, by kernel_rfl⟩
set_option maxRecDepth 100000 in
set_option maxHeartbeats 1000000 in
theorem New_any (k : Nat) (φ : Nat → Nat) (o : Own) (w : World) (ho : OwnIn o w) :
    Calls Try.prog 10 #[] w fun e w' => ∃ p o', e = .returned (ptr p) ∧ RelP k p newM φ o' 0 0 w' ∧ Turn k o o' w w' := by
  have hmm := @run_makeMap Try.prog
  go_enter Try.func10, Try.ntmps10
  go_wp2_with (first
    | ((with_reducible refine gd_box ?_); refine wpList_box_agg rfl _ (.tmp 4) rfl rfl ?_; intro w3 hx3 hb3 hl3)
    | fail)
  go_ret
  have h1 := MapV.made (α := Nat) w
  have h2 := MapV.made (α := Nat) (w.alloc (.map #[] 0))
  have hb2 : Below w.heap.size w ((w.alloc (.map #[] 0)).alloc (.map #[] 0)) := ((Below.refl _ _).alloc (Nat.le_refl _) _).alloc (by simp) _
  have s1 : (w.alloc (.map #[] 0)).heap.size = w.heap.size + 1 := by simp
  have s2 : ((w.alloc (.map #[] 0)).alloc (.map #[] 0)).heap.size = w.heap.size + 2 := by simp
  have h12 := (h1.ext ((Below.refl _ _).alloc (Nat.le_refl _) (.map #[] 0))).ext hb3
  have h22 := h2.ext hb3
  have hB3 := below_step hb2 hb3
  have g3 := hx3.lt
  have n1 : w.heap.size ≠ w.heap.size + 1 := by omega
  have n2 : w.heap.size ≠ w.heap.size + 2 := by omega
  have n3 : w.heap.size + 1 ≠ w.heap.size + 2 := by omega
  rw [s1] at h22
  rw [s2] at hx3 g3
  have e1 : give (give (give o w.heap.size (k, .now)) (w.heap.size + 1) (k, .syn)) (w.heap.size + 2) (k, .fs) w.heap.size = some (k, .now) := by rw [give_ne n2, give_ne n1, give_same]
  have e2 : give (give (give o w.heap.size (k, .now)) (w.heap.size + 1) (k, .syn)) (w.heap.size + 2) (k, .fs) (w.heap.size + 1) = some (k, .syn) := by rw [give_ne n3, give_same]
  refine ⟨w.heap.size + 2, give (give (give o w.heap.size (k, .now)) (w.heap.size + 1) (k, .syn)) (w.heap.size + 2) (k, .fs), rfl, ⟨newM_fine, ?_, ⟨w.heap.size, w.heap.size + 1, .slice none 0 0, .slice none 0 0, ⟨hx3, give_same _ _ _, e1, e2, ⟨0, h12, Nat.le_refl _⟩, ⟨0, h22, Nat.le_refl _⟩, World.ownsRow_nil _ _ _ _, fun g h => (by cases h), World.ownsRow_nil _ _ _ _, fun g h => (by cases h)⟩⟩, fun i hi => ?_, by decide, by decide, by decide, Nat.le_refl _⟩, ?_⟩
  · exact ((((ho.more hB3.size).give (by omega) _).give (by omega) _).give g3 _)
  · rcases hi with ⟨_, h, _⟩ | ⟨_, h, _⟩ | ⟨_, h⟩ <;> exact absurd h List.not_mem_nil
  · exact (((Turn.below ho hB3).give (Nat.le_refl _) _).give (by omega) _).give (by omega) _
end Go.Mun
