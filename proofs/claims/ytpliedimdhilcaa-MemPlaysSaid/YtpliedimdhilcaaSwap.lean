/- 'Swap': the last word of a stack and one below it change places. -/
import Derived.Test.YtpliedimdhilcaaStackSet
import Derived.Deep.Cut
namespace Go.Mun
open Go Go.RowKit Go.Proofs

/-- what each operation of the region writes -/
def SSwap (g h n c k j d x y : Nat) : Nat → Value → World → Prop
  | 0, v, _ => v = .pointer (some ⟨g, 0, none⟩)
  | 1, v, _ => v = .pointer (some ⟨g, 0, none⟩)
  | 2, v, _ => v = .pointer (some ⟨g, 0, none⟩)
  | 3, v, _ => v = .slice (some ⟨h, 0, none⟩) n c
  | 4, v, _ => v = .int .i64 (k : Nat)
  | 5, v, _ => v = .pointer (some ⟨g, 0, none⟩)
  | 6, v, _ => v = .pointer (some ⟨g, 0, none⟩)
  | 7, v, _ => v = .pointer (some ⟨g, 0, none⟩)
  | 8, v, _ => v = .slice (some ⟨h, 0, none⟩) n c
  | 9, v, _ => v = .int .i64 (k : Nat)
  | 10, v, _ => v = .int .i64 (d : Nat)
  | 11, v, _ => v = .int .i64 (j : Nat)
  | 12, v, _ => v = .pointer (some ⟨g, 0, none⟩)
  | 13, v, _ => v = .pointer (some ⟨g, 0, none⟩)
  | 14, v, _ => v = .pointer (some ⟨g, 0, none⟩)
  | 15, v, _ => v = .slice (some ⟨h, 0, none⟩) n c
  | 16, v, _ => v = .int .i64 (k : Nat)
  | 17, v, _ => v = .int .i64 (d : Nat)
  | 18, v, _ => v = .int .i64 (j : Nat)
  | 19, v, _ => v = .pointer (some ⟨h, j * 32, none⟩)
  | 20, v, _ => v = .agg (wcells y)
  | 21, v, _ => v = .pointer (some ⟨g, 0, none⟩)
  | 22, v, _ => v = .pointer (some ⟨g, 0, none⟩)
  | 23, v, _ => v = .pointer (some ⟨g, 0, none⟩)
  | 24, v, _ => v = .slice (some ⟨h, 0, none⟩) n c
  | 25, v, _ => v = .int .i64 (k : Nat)
  | 26, v, _ => v = .pointer (some ⟨h, k * 32, none⟩)
  | 27, v, _ => v = .agg (wcells x)
  | 28, v, _ => v = .pointer (some ⟨h, k * 32, none⟩)
  | 29, _, _ => True
  | 30, v, _ => v = .pointer (some ⟨h, j * 32, none⟩)
  | _, _, _ => True
theorem SSwap_stays (g h n c k j d x y : Nat) : ∀ i v (wa wb : World), wa.grownBy wb (some h) → SSwap g h n c k j d x y i v wa → SSwap g h n c k j d x y i v wb
  | 0, _, _, _, _, h => h
  | 1, _, _, _, _, h => h
  | 2, _, _, _, _, h => h
  | 3, _, _, _, _, h => h
  | 4, _, _, _, _, h => h
  | 5, _, _, _, _, h => h
  | 6, _, _, _, _, h => h
  | 7, _, _, _, _, h => h
  | 8, _, _, _, _, h => h
  | 9, _, _, _, _, h => h
  | 10, _, _, _, _, h => h
  | 11, _, _, _, _, h => h
  | 12, _, _, _, _, h => h
  | 13, _, _, _, _, h => h
  | 14, _, _, _, _, h => h
  | 15, _, _, _, _, h => h
  | 16, _, _, _, _, h => h
  | 17, _, _, _, _, h => h
  | 18, _, _, _, _, h => h
  | 19, _, _, _, _, h => h
  | 20, _, _, _, _, h => h
  | 21, _, _, _, _, h => h
  | 22, _, _, _, _, h => h
  | 23, _, _, _, _, h => h
  | 24, _, _, _, _, h => h
  | 25, _, _, _, _, h => h
  | 26, _, _, _, _, h => h
  | 27, _, _, _, _, h => h
  | 28, _, _, _, _, h => h
  | 29, _, _, _, _, h => h
  | 30, _, _, _, _, h => h
  | _ + 31, _, _, _, _, h => h
/-- how far the exchange has come -/
def JSwap (base h n c : Nat) (l0 l1 l2 : List Nat) (L : Nat → Bool) (_ : Nat → Value) (w : World) : Prop :=
  (L 29 = false → w.ownsRow base 25 32 (.slice (some ⟨h, 0, none⟩) n c) n (wrow l0)) ∧ (L 29 = true → L 31 = false → w.ownsRow base 25 32 (.slice (some ⟨h, 0, none⟩) n c) n (wrow l1)) ∧ (L 31 = true → w.ownsRow base 25 32 (.slice (some ⟨h, 0, none⟩) n c) n (wrow l2))
theorem JSwap_far (base h n c : Nat) (l0 l1 l2 : List Nat) {L : Nat → Bool} {V : Nat → Value} {w : World} (hJ : JSwap base h n c l0 l1 l2 L V w) {k : Nat} {v : Value} (h29 : (29 : Nat) ≠ k) (h31 : (31 : Nat) ≠ k) : JSwap base h n c l0 l1 l2 (updL L k) (upd V k v) w := by
  unfold JSwap at hJ ⊢
  simp only [updL_ne h29, updL_ne h31]
  exact hJ

theorem Swap_no (i : Int) (w : World) (g n c : Nat) (A : Option Addr) (_h1 : -9223372036854775808 ≤ i) (_h2 : i ≤ 9223372036854775807) (_hn : n ≤ 1000000) (hm : Blk w g 43 #[.slice A n c]) (h : i < 1 ∨ (n : Int) - 1 < i) :
    Calls Try.prog 35 #[.pointer (some ⟨g, 0, none⟩), .int .i64 i] w fun e w' => e = .returned (.bool false) ∧ w = w' := by
  have hc := hm.cellv (i := 0) rfl
  by_cases h1 : i < 1
  · have d1 : decide (i < 1) = true := decide_eq_true h1
    clear h
    go_enter Try.func35, Try.ntmps35
    go_wp2
    go_ret
    exact ⟨rfl, rfl⟩
  · have d1 : decide (i < 1) = false := decide_eq_false h1
    have d2 : decide ((n : Int) - 1 < i) = true := decide_eq_true (by omega)
    clear h
    go_enter Try.func35, Try.ntmps35
    go_wp2
    go_ret
    exact ⟨rfl, rfl⟩

set_option maxRecDepth 100000 in
set_option maxHeartbeats 1000000 in
theorem Swap_all (d k j x y : Nat) (w : World) (g base : Nat) (l : List Nat) (r : Option Nat) (h : StR w g base l r) (hg : g < base) (_hbs : base ≤ w.heap.size) (hd1 : 1 ≤ d) (hk : k + 1 = l.length) (hj : j + d = k) (hl : l.length ≤ 100000) (hx : l[k]? = some x) (hy : l[j]? = some y) :
    Calls Try.prog 35 #[.pointer (some ⟨g, 0, none⟩), .int .i64 (d : Nat)] w fun e w' =>
      e = .returned (.bool true) ∧ StR w' g base ((l.set k y).set j x) r ∧ Kept base g w w' ∧ Way2 g r w w' := by
  obtain ⟨A, c, hro, hm, ho⟩ := h
  obtain ⟨n, hn⟩ : ∃ n, n = l.length := ⟨_, rfl⟩
  have HN := Lib.hid (show ((l.set k y).set j x).length = n by rw [List.length_set, List.length_set, hn])
  rw [← hn] at hro hm ho hk hl
  clear hn
  obtain ⟨h, c', e, hh1, hh2⟩ := own_pos ho (by omega)
  injection e with e1 e2 e3
  subst e1 e3
  have hro' : some h = r := hro
  subst hro'
  clear hro
  have hu := Try.underlying25
  have hi : ∀ x, (Try.prog.info? 25).map (·.size) = some (wcells x).toList.length := fun x => by rw [Array.length_toList, wcells_size]; kernel_rfl
  have d1 : decide ((d : Int) < 1) = false := decide_eq_false (by omega)
  have d2 : decide ((k : Int) < d) = false := decide_eq_false (by omega)
  have hc := hm.cellv (i := 0) rfl
  have E0 : (n : Int) - 1 = k := by omega
  have E1 : (k : Int) - d = j := by omega
  have b1 : (0 : Int) ≤ k ∧ (0 : Int) ≤ j := by omega
  have b2 : (k : Int) < n ∧ (j : Int) < n := by omega
  have hkn : k < n := by omega
  have hjn : j < n := by omega
  have HC := Lib.hid (fun w' (hb : World.grownBy w.drew w' (some h)) => (hm.drew.grown hb (by intro e; injection e with e; omega)).cellv (i := 0) rfl)
  go_enter Try.func35, Try.ntmps35
  go_upto_region 4 with (fail)
  try simp only [E0]
  refine wp_region_phase (by kernel_rfl) (by kernel_rfl) (by kernel_rfl) (fun w w' => w.grownBy w' (some h)) (fun _ => World.grownBy.refl _ _) (fun _ _ _ h k => h.trans k) (SSwap g h n c k j d x y) (SSwap_stays _ _ _ _ _ _ _ _ _) (JSwap base h n c l (l.set k y) ((l.set k y).set j x))
    ⟨fun _ => own_drew ho, fun h => (by cases h), fun h => (by cases h)⟩ ?_ ?_
  · simp only [PhStep]
    refine ⟨?_, ?_, ?_, ?_, ?_, ?_, ?_, ?_, ?_, ?_, ?_, ?_, ?_, ?_, ?_, ?_, ?_, ?_, ?_, ?_, ?_, ?_, ?_, ?_, ?_, ?_, ?_, ?_, ?_, ?_, ?_, ?_, trivial⟩
    · intro L V w' hb hj hl hdo hcl hd
      clear hdo hcl
      clear hd
      refine ⟨?_⟩
      simp only [fill]
      go_wp2
      exact ⟨⟨rfl, rfl, World.grownBy.refl _ _, rfl⟩, (JSwap_far _ _ _ _ _ _ _ hj (by decide) (by decide))⟩
    · intro L V w' hb hj hl hdo hcl hd
      clear hdo hcl
      simp only [DepFacts, SSwap, Region.binds, forall_const, and_true] at hd
      refine ⟨?_⟩
      simp only [fill, hd]
      clear hd
      go_wp2
      exact ⟨⟨rfl, rfl, World.grownBy.refl _ _, rfl⟩, (JSwap_far _ _ _ _ _ _ _ hj (by decide) (by decide))⟩
    · intro L V w' hb hj hl hdo hcl hd
      clear hdo hcl
      simp only [DepFacts, SSwap, Region.binds, forall_const, and_true] at hd
      refine ⟨?_⟩
      simp only [fill, hd]
      clear hd
      go_wp2
      exact ⟨⟨rfl, rfl, World.grownBy.refl _ _, rfl⟩, (JSwap_far _ _ _ _ _ _ _ hj (by decide) (by decide))⟩
    · intro L V w' hb hj hl hdo hcl hd
      have hc1 := HC.out _ hb
      clear hdo hcl
      simp only [DepFacts, SSwap, Region.binds, forall_const, and_true] at hd
      refine ⟨?_⟩
      simp only [fill, hd]
      clear hd
      go_wp2
      exact ⟨⟨rfl, rfl, World.grownBy.refl _ _, rfl⟩, JSwap_far _ _ _ _ _ _ _ hj (by decide) (by decide)⟩
    · intro L V w' hb hj hl hdo hcl hd
      clear hdo hcl
      clear hd
      refine ⟨?_⟩
      simp only [fill]
      go_wp2
      exact ⟨⟨rfl, rfl, World.grownBy.refl _ _, rfl⟩, (JSwap_far _ _ _ _ _ _ _ hj (by decide) (by decide))⟩
    · intro L V w' hb hj hl hdo hcl hd
      clear hdo hcl
      clear hd
      refine ⟨?_⟩
      simp only [fill]
      go_wp2
      exact ⟨⟨rfl, rfl, World.grownBy.refl _ _, rfl⟩, (JSwap_far _ _ _ _ _ _ _ hj (by decide) (by decide))⟩
    · intro L V w' hb hj hl hdo hcl hd
      clear hdo hcl
      simp only [DepFacts, SSwap, Region.binds, forall_const, and_true] at hd
      refine ⟨?_⟩
      simp only [fill, hd]
      clear hd
      go_wp2
      exact ⟨⟨rfl, rfl, World.grownBy.refl _ _, rfl⟩, (JSwap_far _ _ _ _ _ _ _ hj (by decide) (by decide))⟩
    · intro L V w' hb hj hl hdo hcl hd
      clear hdo hcl
      simp only [DepFacts, SSwap, Region.binds, forall_const, and_true] at hd
      refine ⟨?_⟩
      simp only [fill, hd]
      clear hd
      go_wp2
      exact ⟨⟨rfl, rfl, World.grownBy.refl _ _, rfl⟩, (JSwap_far _ _ _ _ _ _ _ hj (by decide) (by decide))⟩
    · intro L V w' hb hj hl hdo hcl hd
      have hc1 := HC.out _ hb
      clear hdo hcl
      simp only [DepFacts, SSwap, Region.binds, forall_const, and_true] at hd
      refine ⟨?_⟩
      simp only [fill, hd]
      clear hd
      go_wp2
      exact ⟨⟨rfl, rfl, World.grownBy.refl _ _, rfl⟩, JSwap_far _ _ _ _ _ _ _ hj (by decide) (by decide)⟩
    · intro L V w' hb hj hl hdo hcl hd
      clear hdo hcl
      clear hd
      refine ⟨?_⟩
      simp only [fill]
      go_wp2
      exact ⟨⟨rfl, rfl, World.grownBy.refl _ _, rfl⟩, (JSwap_far _ _ _ _ _ _ _ hj (by decide) (by decide))⟩
    · intro L V w' hb hj hl hdo hcl hd
      clear hdo hcl
      clear hd
      refine ⟨?_⟩
      simp only [fill]
      go_wp2
      exact ⟨⟨rfl, rfl, World.grownBy.refl _ _, rfl⟩, (JSwap_far _ _ _ _ _ _ _ hj (by decide) (by decide))⟩
    · intro L V w' hb hj hl hdo hcl hd
      clear hdo hcl
      simp only [DepFacts, SSwap, Region.binds, forall_const, and_true] at hd
      refine ⟨?_⟩
      simp only [fill, hd]
      clear hd
      go_wp2
      exact ⟨⟨rfl, rfl, World.grownBy.refl _ _, rfl⟩, (JSwap_far _ _ _ _ _ _ _ hj (by decide) (by decide))⟩
    · intro L V w' hb hj hl hdo hcl hd
      clear hdo hcl
      clear hd
      refine ⟨?_⟩
      simp only [fill]
      go_wp2
      exact ⟨⟨rfl, rfl, World.grownBy.refl _ _, rfl⟩, (JSwap_far _ _ _ _ _ _ _ hj (by decide) (by decide))⟩
    · intro L V w' hb hj hl hdo hcl hd
      clear hdo hcl
      simp only [DepFacts, SSwap, Region.binds, forall_const, and_true] at hd
      refine ⟨?_⟩
      simp only [fill, hd]
      clear hd
      go_wp2
      exact ⟨⟨rfl, rfl, World.grownBy.refl _ _, rfl⟩, (JSwap_far _ _ _ _ _ _ _ hj (by decide) (by decide))⟩
    · intro L V w' hb hj hl hdo hcl hd
      clear hdo hcl
      simp only [DepFacts, SSwap, Region.binds, forall_const, and_true] at hd
      refine ⟨?_⟩
      simp only [fill, hd]
      clear hd
      go_wp2
      exact ⟨⟨rfl, rfl, World.grownBy.refl _ _, rfl⟩, (JSwap_far _ _ _ _ _ _ _ hj (by decide) (by decide))⟩
    · intro L V w' hb hj hl hdo hcl hd
      have hc1 := HC.out _ hb
      clear hdo hcl
      simp only [DepFacts, SSwap, Region.binds, forall_const, and_true] at hd
      refine ⟨?_⟩
      simp only [fill, hd]
      clear hd
      go_wp2
      exact ⟨⟨rfl, rfl, World.grownBy.refl _ _, rfl⟩, JSwap_far _ _ _ _ _ _ _ hj (by decide) (by decide)⟩
    · intro L V w' hb hj hl hdo hcl hd
      clear hdo hcl
      clear hd
      refine ⟨?_⟩
      simp only [fill]
      go_wp2
      exact ⟨⟨rfl, rfl, World.grownBy.refl _ _, rfl⟩, (JSwap_far _ _ _ _ _ _ _ hj (by decide) (by decide))⟩
    · intro L V w' hb hj hl hdo hcl hd
      clear hdo hcl
      clear hd
      refine ⟨?_⟩
      simp only [fill]
      go_wp2
      exact ⟨⟨rfl, rfl, World.grownBy.refl _ _, rfl⟩, (JSwap_far _ _ _ _ _ _ _ hj (by decide) (by decide))⟩
    · intro L V w' hb hj hl hdo hcl hd
      clear hdo hcl
      simp only [DepFacts, SSwap, Region.binds, forall_const, and_true] at hd
      refine ⟨?_⟩
      simp only [fill, hd]
      clear hd
      go_wp2
      exact ⟨⟨rfl, rfl, World.grownBy.refl _ _, rfl⟩, (JSwap_far _ _ _ _ _ _ _ hj (by decide) (by decide))⟩
    · intro L V w' hb hj hl hdo hcl hd
      clear hdo hcl
      simp only [DepFacts, SSwap, Region.binds, forall_const, and_true] at hd
      refine ⟨?_⟩
      simp only [fill, hd]
      clear hd
      go_wp2
      exact ⟨⟨rfl, rfl, World.grownBy.refl _ _, rfl⟩, (JSwap_far _ _ _ _ _ _ _ hj (by decide) (by decide))⟩
    · intro L V w' hb hj hl hdo hcl hd
      have hoo := hj.1 (Bool.eq_false_iff.2 fun e => by have := hcl 29 20 (by kernel_rfl) e; rw [this] at hl; cases hl)
      have hr1 := row_word hoo hy
      clear hdo hcl
      simp only [DepFacts, SSwap, Region.binds, forall_const, and_true] at hd
      refine ⟨?_⟩
      simp only [fill, hd]
      clear hd
      simp only [Act.put, List.setIfInBounds_toArray, List.set_cons_zero, List.set_cons_succ]
      go_wp2_with (first | ((with_reducible refine gd_load ?_); refine wpList_load_mid rfl 25 (.tmp 38) rfl h (j * 32) rfl (wcells _).toList _ hr1 hu rfl (hi _) ?_) | fail)
      exact ⟨⟨rfl, rfl, World.grownBy.refl _ _, rfl⟩, JSwap_far _ _ _ _ _ _ _ hj (by decide) (by decide)⟩
    · intro L V w' hb hj hl hdo hcl hd
      clear hdo hcl
      clear hd
      refine ⟨?_⟩
      simp only [fill]
      go_wp2
      exact ⟨⟨rfl, rfl, World.grownBy.refl _ _, rfl⟩, (JSwap_far _ _ _ _ _ _ _ hj (by decide) (by decide))⟩
    · intro L V w' hb hj hl hdo hcl hd
      clear hdo hcl
      simp only [DepFacts, SSwap, Region.binds, forall_const, and_true] at hd
      refine ⟨?_⟩
      simp only [fill, hd]
      clear hd
      go_wp2
      exact ⟨⟨rfl, rfl, World.grownBy.refl _ _, rfl⟩, (JSwap_far _ _ _ _ _ _ _ hj (by decide) (by decide))⟩
    · intro L V w' hb hj hl hdo hcl hd
      clear hdo hcl
      simp only [DepFacts, SSwap, Region.binds, forall_const, and_true] at hd
      refine ⟨?_⟩
      simp only [fill, hd]
      clear hd
      go_wp2
      exact ⟨⟨rfl, rfl, World.grownBy.refl _ _, rfl⟩, (JSwap_far _ _ _ _ _ _ _ hj (by decide) (by decide))⟩
    · intro L V w' hb hj hl hdo hcl hd
      have hc1 := HC.out _ hb
      clear hdo hcl
      simp only [DepFacts, SSwap, Region.binds, forall_const, and_true] at hd
      refine ⟨?_⟩
      simp only [fill, hd]
      clear hd
      go_wp2
      exact ⟨⟨rfl, rfl, World.grownBy.refl _ _, rfl⟩, JSwap_far _ _ _ _ _ _ _ hj (by decide) (by decide)⟩
    · intro L V w' hb hj hl hdo hcl hd
      clear hdo hcl
      clear hd
      refine ⟨?_⟩
      simp only [fill]
      go_wp2
      exact ⟨⟨rfl, rfl, World.grownBy.refl _ _, rfl⟩, (JSwap_far _ _ _ _ _ _ _ hj (by decide) (by decide))⟩
    · intro L V w' hb hj hl hdo hcl hd
      clear hdo hcl
      simp only [DepFacts, SSwap, Region.binds, forall_const, and_true] at hd
      refine ⟨?_⟩
      simp only [fill, hd]
      clear hd
      go_wp2
      exact ⟨⟨rfl, rfl, World.grownBy.refl _ _, rfl⟩, (JSwap_far _ _ _ _ _ _ _ hj (by decide) (by decide))⟩
    · intro L V w' hb hj hl hdo hcl hd
      have hoo := hj.1 (Bool.eq_false_iff.2 fun e => by have := hcl 29 27 (by kernel_rfl) e; rw [this] at hl; cases hl)
      have hr1 := row_word hoo hx
      clear hdo hcl
      simp only [DepFacts, SSwap, Region.binds, forall_const, and_true] at hd
      refine ⟨?_⟩
      simp only [fill, hd]
      clear hd
      simp only [Act.put, List.setIfInBounds_toArray, List.set_cons_zero, List.set_cons_succ]
      go_wp2_with (first | ((with_reducible refine gd_load ?_); refine wpList_load_mid rfl 25 (.tmp 45) rfl h (k * 32) rfl (wcells _).toList _ hr1 hu rfl (hi _) ?_) | fail)
      exact ⟨⟨rfl, rfl, World.grownBy.refl _ _, rfl⟩, JSwap_far _ _ _ _ _ _ _ hj (by decide) (by decide)⟩
    · intro L V w' hb hj hl hdo hcl hd
      clear hdo hcl
      simp only [DepFacts, SSwap, Region.binds, forall_const, and_true] at hd
      refine ⟨?_⟩
      simp only [fill, hd]
      clear hd
      go_wp2
      exact ⟨⟨rfl, rfl, World.grownBy.refl _ _, rfl⟩, (JSwap_far _ _ _ _ _ _ _ hj (by decide) (by decide))⟩
    · intro L V w' hb hj hl hdo hcl hd
      have hoo := hj.1 hl
      have hl2 : L 31 = false := Bool.eq_false_iff.2 fun e => by have := hcl 31 29 (by kernel_rfl) e; rw [this] at hl; cases hl
      clear hdo hcl
      simp only [DepFacts, SSwap, Region.binds, forall_const, and_true] at hd
      refine ⟨?_⟩
      simp only [fill, hd]
      clear hd
      simp only [Act.put, List.setIfInBounds_toArray, List.set_cons_zero, List.set_cons_succ]
      go_wp2_with (first | ((with_reducible refine gd_store ?_); refine wpList_store_word rfl (.tmp 47) (.tmp 39) rfl hoo hkn rfl rfl ?_; intro w9 ho9 hg9) | fail)
      refine ⟨⟨rfl, rfl, hg9, trivial⟩, ?_⟩
      unfold JSwap
      rw [updL_same, updL_ne (by decide), hl2]
      exact ⟨fun e => (by cases e), fun _ _ => ho9, fun e => (by cases e)⟩
    · intro L V w' hb hj hl hdo hcl hd
      clear hdo hcl
      simp only [DepFacts, SSwap, Region.binds, forall_const, and_true] at hd
      refine ⟨?_⟩
      simp only [fill, hd]
      clear hd
      go_wp2
      exact ⟨⟨rfl, rfl, World.grownBy.refl _ _, rfl⟩, (JSwap_far _ _ _ _ _ _ _ hj (by decide) (by decide))⟩
    · intro L V w' hb hj hl hdo hcl hd
      have h1 : L 29 = true := hdo 29 (by kernel_rfl)
      have hoo := hj.2.1 h1 hl
      clear hdo hcl
      simp only [DepFacts, SSwap, Region.binds, forall_const, and_true] at hd
      refine ⟨?_⟩
      simp only [fill, hd]
      clear hd
      simp only [Act.put, List.setIfInBounds_toArray, List.set_cons_zero, List.set_cons_succ]
      go_wp2_with (first | ((with_reducible refine gd_store ?_); refine wpList_store_word rfl (.tmp 48) (.tmp 46) rfl hoo hjn rfl rfl ?_; intro w9 ho9 hg9) | fail)
      refine ⟨⟨rfl, rfl, hg9, trivial⟩, ?_⟩
      unfold JSwap
      rw [updL_same, updL_ne (by decide), h1]
      exact ⟨fun e => (by cases e), fun _ e => (by cases e), fun _ => ho9⟩
  · intro L V w' hL hb hs hj
    have h31 := hj.2.2 (hL 31 (by decide))
    have hm' : Blk w' g 43 #[.slice (some ⟨h, 0, none⟩) n c] := hm.drew.grown hb (by intro e; injection e with e; omega)
    clear hj hL hs
    simp only [fill]
    simp only [Exit.then]
    go_simp
    go_wp2
    go_ret
    refine ⟨rfl, ⟨_, _, rfl, by rw [HN.out]; exact hm', by rw [HN.out]; exact h31⟩, ?_, ⟨hb.os, hb.tape, hb.output, hb.size, fun i hi h1 h2 => hb.block i hi h2⟩⟩
    exact ⟨hb.os, hb.tape, hb.output, hb.size, fun i hi hne => hb.block i (by show i < w.heap.size; omega) (by intro e; injection e with e; omega)⟩
end Go.Mun
