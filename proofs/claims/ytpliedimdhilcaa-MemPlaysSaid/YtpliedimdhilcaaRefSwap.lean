/- The reference's 'Swap'. -/
import Derived.Test.YtpliedimdhilcaaRefPush
import Derived.Test.YtpliedimdhilcaaStackSet
import Derived.Deep.Cut
namespace Go.Mun.RS
open Go Go.RowKit Go.Proofs Go.Mun

/-- what each operation of the region writes -/
def SSw5 (g h n c k j d y : Nat) : Nat → Value → World → Prop
  | 0, v, _ => v = .pointer (some ⟨g, 0, none⟩)
  | 1, v, _ => v = .pointer (some ⟨g, 0, none⟩)
  | 2, v, _ => v = .pointer (some ⟨g, 0, none⟩)
  | 3, v, _ => v = .slice (some ⟨h, 0, none⟩) n c
  | 4, v, _ => v = .int .i64 (k : Nat)
  | 5, v, _ => v = .pointer (some ⟨g, 0, none⟩)
  | 6, v, _ => v = .pointer (some ⟨g, 0, none⟩)
  | 7, v, _ => v = .pointer (some ⟨g, 0, none⟩)
  | 8, v, _ => v = .slice (some ⟨h, 0, none⟩) n c
  | 9, v, _ => v = .int .i64 (k : Nat)
  | 10, v, _ => v = .int .i64 (d : Nat)
  | 11, v, _ => v = .int .i64 (j : Nat)
  | 12, v, _ => v = .pointer (some ⟨h, j * 32, none⟩)
  | 13, v, _ => v = .agg (wcells y)
  | 14, v, _ => v = .pointer (some ⟨h, k * 32, none⟩)
  | _, _, _ => True
theorem SSw5_stays (g h n c k j d y : Nat) : ∀ i v (wa wb : World), wa.grownBy wb (some h) → SSw5 g h n c k j d y i v wa → SSw5 g h n c k j d y i v wb
  | 0, _, _, _, _, h => h
  | 1, _, _, _, _, h => h
  | 2, _, _, _, _, h => h
  | 3, _, _, _, _, h => h
  | 4, _, _, _, _, h => h
  | 5, _, _, _, _, h => h
  | 6, _, _, _, _, h => h
  | 7, _, _, _, _, h => h
  | 8, _, _, _, _, h => h
  | 9, _, _, _, _, h => h
  | 10, _, _, _, _, h => h
  | 11, _, _, _, _, h => h
  | 12, _, _, _, _, h => h
  | 13, _, _, _, _, h => h
  | 14, _, _, _, _, h => h
  | _ + 15, _, _, _, _, h => h
/-- how far it has come -/
def JSw5 (base h n c : Nat) (l0 l1 : List Nat) (L : Nat → Bool) (_ : Nat → Value) (w : World) : Prop :=
  (L 15 = false → w.ownsRow base 25 32 (.slice (some ⟨h, 0, none⟩) n c) n (wrow l0)) ∧ (L 15 = true → w.ownsRow base 25 32 (.slice (some ⟨h, 0, none⟩) n c) n (wrow l1))
theorem JSw5_far (base h n c : Nat) (l0 l1 : List Nat) {L : Nat → Bool} {V : Nat → Value} {w : World} (hJ : JSw5 base h n c l0 l1 L V w) {k : Nat} {v : Value} (h15 : (15 : Nat) ≠ k) : JSw5 base h n c l0 l1 (updL L k) (upd V k v) w := by
  unfold JSw5 at hJ ⊢
  simp only [updL_ne h15]
  exact hJ
/-- what each operation of the region writes -/
def SSw6 (g h n c k j d x : Nat) : Nat → Value → World → Prop
  | 0, v, _ => v = .pointer (some ⟨g, 0, none⟩)
  | 1, v, _ => v = .pointer (some ⟨g, 0, none⟩)
  | 2, v, _ => v = .pointer (some ⟨g, 0, none⟩)
  | 3, v, _ => v = .slice (some ⟨h, 0, none⟩) n c
  | 4, v, _ => v = .int .i64 (k : Nat)
  | 5, v, _ => v = .int .i64 (d : Nat)
  | 6, v, _ => v = .int .i64 (j : Nat)
  | 7, v, _ => v = .agg (wcells x)
  | 8, v, _ => v = .pointer (some ⟨h, j * 32, none⟩)
  | _, _, _ => True
theorem SSw6_stays (g h n c k j d x : Nat) : ∀ i v (wa wb : World), wa.grownBy wb (some h) → SSw6 g h n c k j d x i v wa → SSw6 g h n c k j d x i v wb
  | 0, _, _, _, _, h => h
  | 1, _, _, _, _, h => h
  | 2, _, _, _, _, h => h
  | 3, _, _, _, _, h => h
  | 4, _, _, _, _, h => h
  | 5, _, _, _, _, h => h
  | 6, _, _, _, _, h => h
  | 7, _, _, _, _, h => h
  | 8, _, _, _, _, h => h
  | _ + 9, _, _, _, _, h => h
/-- how far it has come -/
def JSw6 (base h n c : Nat) (l0 l1 : List Nat) (L : Nat → Bool) (_ : Nat → Value) (w : World) : Prop :=
  (L 9 = false → w.ownsRow base 25 32 (.slice (some ⟨h, 0, none⟩) n c) n (wrow l0)) ∧ (L 9 = true → w.ownsRow base 25 32 (.slice (some ⟨h, 0, none⟩) n c) n (wrow l1))
theorem JSw6_far (base h n c : Nat) (l0 l1 : List Nat) {L : Nat → Bool} {V : Nat → Value} {w : World} (hJ : JSw6 base h n c l0 l1 L V w) {k : Nat} {v : Value} (h9 : (9 : Nat) ≠ k) : JSw6 base h n c l0 l1 (updL L k) (upd V k v) w := by
  unfold JSw6 at hJ ⊢
  simp only [updL_ne h9]
  exact hJ

theorem Swap_no (i : Int) (w : World) (g n c : Nat) (A : Option Addr) (_h1 : -9223372036854775808 ≤ i) (_h2 : i ≤ 9223372036854775807) (_hn : n ≤ 1000000) (hm : Blk w g 63 #[.slice A n c]) (h : i < 1 ∨ (n : Int) - 1 < i) :
    Calls Try.prog 50 #[.pointer (some ⟨g, 0, none⟩), .int .i64 i] w fun e w' => e = .returned (.bool false) ∧ w = w' := by
  have hc := hm.cellv (i := 0) rfl
  by_cases h1 : i < 1
  · have d1 : decide (i < 1) = true := decide_eq_true h1
    clear h
    go_enter Try.func50, Try.ntmps50
    go_wp2
    go_ret
    exact ⟨rfl, rfl⟩
  · have d1 : decide (i < 1) = false := decide_eq_false h1
    have d2 : decide ((n : Int) ≤ i) = true := decide_eq_true (by omega)
    clear h
    go_enter Try.func50, Try.ntmps50
    go_wp2
    go_ret
    exact ⟨rfl, rfl⟩

set_option maxRecDepth 100000 in
set_option maxHeartbeats 1000000 in
theorem Swap_all (d k j x y : Nat) (w : World) (g base : Nat) (l : List Nat) (r : Option Nat) (h : StR w g base l r) (hg : g < base) (_hbs : base ≤ w.heap.size) (hd1 : 1 ≤ d) (hk : k + 1 = l.length) (hj : j + d = k) (hl : l.length ≤ 100000) (hx : l[k]? = some x) (hy : l[j]? = some y) :
    Calls Try.prog 50 #[.pointer (some ⟨g, 0, none⟩), .int .i64 (d : Nat)] w fun e w' =>
      e = .returned (.bool true) ∧ StR w' g base ((l.set k y).set j x) r ∧ Kept base g w w' ∧ Way2 g r w w' := by
  obtain ⟨A, c, hro, hm, ho⟩ := h
  obtain ⟨n, hn⟩ : ∃ n, n = l.length := ⟨_, rfl⟩
  have HN := Lib.hid (show ((l.set k y).set j x).length = n by rw [List.length_set, List.length_set, hn])
  have HYJ := Lib.hid hy
  rw [← hn] at hro hm ho hk hl
  clear hn
  obtain ⟨h, c', e, hh1, hh2⟩ := own_pos ho (by omega)
  injection e with e1 e2 e3
  subst e1 e3
  have hro' : some h = r := hro
  subst hro'
  clear hro
  have hW := wordTy
  have hWT := wordTy
  have zW := zWordL
  have HSW := Lib.hid wcells_size
  have H1W := Lib.hid wcells_one
  have hu := Try.underlying25
  have hi : ∀ x, (Try.prog.info? 25).map (·.size) = some (wcells x).toList.length := fun x => by rw [Array.length_toList, wcells_size]; kernel_rfl
  have d1 : decide ((d : Int) < 1) = false := decide_eq_false (by omega)
  have d2 : decide ((n : Int) ≤ d) = false := decide_eq_false (by omega)
  have hc := hm.cellv (i := 0) rfl
  have E0 : (n : Int) - 1 = k := by omega
  have E1 : (k : Int) - d = j := by omega
  have b1 : (0 : Int) ≤ k ∧ (0 : Int) ≤ j := by omega
  have b2 : (k : Int) < n ∧ (j : Int) < n := by omega
  have hkn : k < n := by omega
  have hjn : j < n := by omega
  have hr0 := row_word ho hx
  go_enter Try.func50, Try.ntmps50
  go_upto_region 5 with (first
    | ((with_reducible refine gd_load ?_); refine wpList_load_mid rfl 25 (.tmp 29) rfl h (k * 32) rfl (wcells x).toList _ hr0 hu rfl (hi _) ?_)
    | ((with_reducible refine gd_alloc ?_); refine wpList_alloc_blk rfl 25 rfl zW ?_; intro w1 hx1 hb1 hl1; replace hx1 : Blk w1 w.heap.size 25 (wcells 0) := hx1)
    | ((with_reducible refine gd_store ?_); refine wpList_store_all rfl 25 (.tmp 6) (.tmp 30) rfl (wcells x) hx1 (by rw [HSW.out]; exact hW) (by rw [HSW.out, HSW.out]) (H1W.out _) (by rfl) (by rfl) ?_; intro w2 hx2 hg2)
    | fail)
  have hB2 : Below w.heap.size w w2 := below_blk hb1 hb1.size hg2 (Nat.le_refl _)
  have hm2 := hm.ext hB2
  have ho2 := own_ext ho hB2
  have HC := Lib.hid (fun w' (hb : World.grownBy w2.drew w' (some h)) => (hm2.drew.grown hb (by intro e; injection e with e; omega)).cellv (i := 0) rfl)
  try simp only [E0]
  refine wp_region_phase (by kernel_rfl) (by kernel_rfl) (by kernel_rfl) (fun w w' => w.grownBy w' (some h)) (fun _ => World.grownBy.refl _ _) (fun _ _ _ h k => h.trans k) (SSw5 g h n c k j d y) (SSw5_stays g h n c k j d y) (JSw5 base h n c l (l.set k y)) ⟨fun _ => own_drew ho2, fun h => (by cases h)⟩ ?_ ?_
  · simp only [PhStep]
    refine ⟨?_, ?_, ?_, ?_, ?_, ?_, ?_, ?_, ?_, ?_, ?_, ?_, ?_, ?_, ?_, ?_, trivial⟩
    · intro L V w' hb hj hl hdo hcl hd
      clear hdo hcl
      clear hd
      refine ⟨?_⟩
      simp only [fill]
      go_wp2
      exact ⟨⟨rfl, rfl, World.grownBy.refl _ _, rfl⟩, (JSw5_far _ _ _ _ _ _ hj (by decide))⟩
    · intro L V w' hb hj hl hdo hcl hd
      clear hdo hcl
      simp only [DepFacts, SSw5, Region.binds, forall_const, and_true] at hd
      refine ⟨?_⟩
      simp only [fill, hd]
      clear hd
      go_wp2
      exact ⟨⟨rfl, rfl, World.grownBy.refl _ _, rfl⟩, (JSw5_far _ _ _ _ _ _ hj (by decide))⟩
    · intro L V w' hb hj hl hdo hcl hd
      clear hdo hcl
      simp only [DepFacts, SSw5, Region.binds, forall_const, and_true] at hd
      refine ⟨?_⟩
      simp only [fill, hd]
      clear hd
      go_wp2
      exact ⟨⟨rfl, rfl, World.grownBy.refl _ _, rfl⟩, (JSw5_far _ _ _ _ _ _ hj (by decide))⟩
    · intro L V w' hb hj hl hdo hcl hd
      have hc1 := HC.out _ hb
      clear hdo hcl
      simp only [DepFacts, SSw5, Region.binds, forall_const, and_true] at hd
      refine ⟨?_⟩
      simp only [fill, hd]
      clear hd
      go_wp2
      exact ⟨⟨rfl, rfl, World.grownBy.refl _ _, rfl⟩, JSw5_far _ _ _ _ _ _ hj (by decide)⟩
    · intro L V w' hb hj hl hdo hcl hd
      clear hdo hcl
      clear hd
      refine ⟨?_⟩
      simp only [fill]
      go_wp2
      exact ⟨⟨rfl, rfl, World.grownBy.refl _ _, rfl⟩, (JSw5_far _ _ _ _ _ _ hj (by decide))⟩
    · intro L V w' hb hj hl hdo hcl hd
      clear hdo hcl
      clear hd
      refine ⟨?_⟩
      simp only [fill]
      go_wp2
      exact ⟨⟨rfl, rfl, World.grownBy.refl _ _, rfl⟩, (JSw5_far _ _ _ _ _ _ hj (by decide))⟩
    · intro L V w' hb hj hl hdo hcl hd
      clear hdo hcl
      simp only [DepFacts, SSw5, Region.binds, forall_const, and_true] at hd
      refine ⟨?_⟩
      simp only [fill, hd]
      clear hd
      go_wp2
      exact ⟨⟨rfl, rfl, World.grownBy.refl _ _, rfl⟩, (JSw5_far _ _ _ _ _ _ hj (by decide))⟩
    · intro L V w' hb hj hl hdo hcl hd
      clear hdo hcl
      simp only [DepFacts, SSw5, Region.binds, forall_const, and_true] at hd
      refine ⟨?_⟩
      simp only [fill, hd]
      clear hd
      go_wp2
      exact ⟨⟨rfl, rfl, World.grownBy.refl _ _, rfl⟩, (JSw5_far _ _ _ _ _ _ hj (by decide))⟩
    · intro L V w' hb hj hl hdo hcl hd
      have hc1 := HC.out _ hb
      clear hdo hcl
      simp only [DepFacts, SSw5, Region.binds, forall_const, and_true] at hd
      refine ⟨?_⟩
      simp only [fill, hd]
      clear hd
      go_wp2
      exact ⟨⟨rfl, rfl, World.grownBy.refl _ _, rfl⟩, JSw5_far _ _ _ _ _ _ hj (by decide)⟩
    · intro L V w' hb hj hl hdo hcl hd
      clear hdo hcl
      clear hd
      refine ⟨?_⟩
      simp only [fill]
      go_wp2
      exact ⟨⟨rfl, rfl, World.grownBy.refl _ _, rfl⟩, (JSw5_far _ _ _ _ _ _ hj (by decide))⟩
    · intro L V w' hb hj hl hdo hcl hd
      clear hdo hcl
      clear hd
      refine ⟨?_⟩
      simp only [fill]
      go_wp2
      exact ⟨⟨rfl, rfl, World.grownBy.refl _ _, rfl⟩, (JSw5_far _ _ _ _ _ _ hj (by decide))⟩
    · intro L V w' hb hj hl hdo hcl hd
      clear hdo hcl
      simp only [DepFacts, SSw5, Region.binds, forall_const, and_true] at hd
      refine ⟨?_⟩
      simp only [fill, hd]
      clear hd
      go_wp2
      exact ⟨⟨rfl, rfl, World.grownBy.refl _ _, rfl⟩, (JSw5_far _ _ _ _ _ _ hj (by decide))⟩
    · intro L V w' hb hj hl hdo hcl hd
      clear hdo hcl
      simp only [DepFacts, SSw5, Region.binds, forall_const, and_true] at hd
      refine ⟨?_⟩
      simp only [fill, hd]
      clear hd
      go_wp2
      exact ⟨⟨rfl, rfl, World.grownBy.refl _ _, rfl⟩, (JSw5_far _ _ _ _ _ _ hj (by decide))⟩
    · intro L V w' hb hj hl hdo hcl hd
      have hoo := hj.1 (Bool.eq_false_iff.2 fun e => by have := hcl 15 13 (by kernel_rfl) e; rw [this] at hl; cases hl)
      have hr1 := row_word hoo hy
      clear hdo hcl
      simp only [DepFacts, SSw5, Region.binds, forall_const, and_true] at hd
      refine ⟨?_⟩
      simp only [fill, hd]
      clear hd
      simp only [Act.put, List.setIfInBounds_toArray, List.set_cons_zero, List.set_cons_succ]
      go_wp2_with (first | ((with_reducible refine gd_load ?_); refine wpList_load_mid rfl 25 (.tmp 43) rfl h (j * 32) rfl (wcells _).toList _ hr1 hu rfl (hi _) ?_) | fail)
      exact ⟨⟨rfl, rfl, World.grownBy.refl _ _, rfl⟩, JSw5_far _ _ _ _ _ _ hj (by decide)⟩
    · intro L V w' hb hj hl hdo hcl hd
      clear hdo hcl
      simp only [DepFacts, SSw5, Region.binds, forall_const, and_true] at hd
      refine ⟨?_⟩
      simp only [fill, hd]
      clear hd
      go_wp2
      exact ⟨⟨rfl, rfl, World.grownBy.refl _ _, rfl⟩, (JSw5_far _ _ _ _ _ _ hj (by decide))⟩
    · intro L V w' hb hj hl hdo hcl hd
      have hoo := hj.1 hl
      clear hdo hcl
      simp only [DepFacts, SSw5, Region.binds, forall_const, and_true] at hd
      refine ⟨?_⟩
      simp only [fill, hd]
      clear hd
      simp only [Act.put, List.setIfInBounds_toArray, List.set_cons_zero, List.set_cons_succ]
      go_wp2_with (first | ((with_reducible refine gd_store ?_); refine wpList_store_word rfl (.tmp 45) (.tmp 44) rfl hoo hkn rfl rfl ?_; intro w9 ho9 hg9) | fail)
      refine ⟨⟨rfl, rfl, hg9, trivial⟩, ?_⟩
      unfold JSw5
      rw [updL_same]
      exact ⟨fun e => (by cases e), fun _ => ho9⟩
  · intro L V w5 hL hb5 hs hj
    have ho5 := hj.2 (hL 15 (by decide))
    clear hj hL hs
    have hm5 := hm2.drew.grown hb5 (by intro e; injection e with e; omega)
    have hx5 := hx2.drew.grown hb5 (by intro e; injection e with e; omega)
    have HD := Lib.hid (fun w' (hb : World.grownBy w5.drew w' (some h)) => (hm5.drew.grown hb (by intro e; injection e with e; omega)).cellv (i := 0) rfl)
    have HB6 := fun {w' : World} (hb : World.grownBy w5.drew w' (some h)) => hx5.drew.grown hb (by intro e; injection e with e; omega)
    have hz5 := hb5.size
    have hs5 : w.heap.size < w5.heap.size := Nat.lt_of_lt_of_le hx2.lt hz5
    simp only [fill]
    simp only [Exit.then]
    go_simp
    go_upto_region 6 with (fail)
    refine wp_region_phase (by kernel_rfl) (by kernel_rfl) (by kernel_rfl) (fun w w' => w.grownBy w' (some h)) (fun _ => World.grownBy.refl _ _) (fun _ _ _ h k => h.trans k) (SSw6 g h n c k j d x) (SSw6_stays g h n c k j d x) (JSw6 base h n c (l.set k y) ((l.set k y).set j x)) ⟨fun _ => own_drew ho5, fun h => (by cases h)⟩ ?_ ?_
    · simp only [PhStep]
      refine ⟨?_, ?_, ?_, ?_, ?_, ?_, ?_, ?_, ?_, ?_, trivial⟩
      · intro L V w' hb hj hl hdo hcl hd
        clear hdo hcl
        clear hd
        refine ⟨?_⟩
        simp only [fill]
        go_wp2
        exact ⟨⟨rfl, rfl, World.grownBy.refl _ _, rfl⟩, (JSw6_far _ _ _ _ _ _ hj (by decide))⟩
      · intro L V w' hb hj hl hdo hcl hd
        clear hdo hcl
        simp only [DepFacts, SSw6, Region.binds, forall_const, and_true] at hd
        refine ⟨?_⟩
        simp only [fill, hd]
        clear hd
        go_wp2
        exact ⟨⟨rfl, rfl, World.grownBy.refl _ _, rfl⟩, (JSw6_far _ _ _ _ _ _ hj (by decide))⟩
      · intro L V w' hb hj hl hdo hcl hd
        clear hdo hcl
        simp only [DepFacts, SSw6, Region.binds, forall_const, and_true] at hd
        refine ⟨?_⟩
        simp only [fill, hd]
        clear hd
        go_wp2
        exact ⟨⟨rfl, rfl, World.grownBy.refl _ _, rfl⟩, (JSw6_far _ _ _ _ _ _ hj (by decide))⟩
      · intro L V w' hb hj hl hdo hcl hd
        have hc1 := HD.out _ hb
        clear hdo hcl
        simp only [DepFacts, SSw6, Region.binds, forall_const, and_true] at hd
        refine ⟨?_⟩
        simp only [fill, hd]
        clear hd
        go_wp2
        exact ⟨⟨rfl, rfl, World.grownBy.refl _ _, rfl⟩, JSw6_far _ _ _ _ _ _ hj (by decide)⟩
      · intro L V w' hb hj hl hdo hcl hd
        clear hdo hcl
        clear hd
        refine ⟨?_⟩
        simp only [fill]
        go_wp2
        exact ⟨⟨rfl, rfl, World.grownBy.refl _ _, rfl⟩, (JSw6_far _ _ _ _ _ _ hj (by decide))⟩
      · intro L V w' hb hj hl hdo hcl hd
        clear hdo hcl
        clear hd
        refine ⟨?_⟩
        simp only [fill]
        go_wp2
        exact ⟨⟨rfl, rfl, World.grownBy.refl _ _, rfl⟩, (JSw6_far _ _ _ _ _ _ hj (by decide))⟩
      · intro L V w' hb hj hl hdo hcl hd
        clear hdo hcl
        simp only [DepFacts, SSw6, Region.binds, forall_const, and_true] at hd
        refine ⟨?_⟩
        simp only [fill, hd]
        clear hd
        go_wp2
        exact ⟨⟨rfl, rfl, World.grownBy.refl _ _, rfl⟩, (JSw6_far _ _ _ _ _ _ hj (by decide))⟩
      · intro L V w' hb hj hl hdo hcl hd
        have hbk := HB6 hb
        clear hdo hcl hd
        refine ⟨?_⟩
        simp only [fill]
        simp only [Act.put, List.setIfInBounds_toArray, List.set_cons_zero, List.set_cons_succ]
        go_wp2_with (first | ((with_reducible refine gd_load ?_); refine wpList_load_blk rfl 25 (.tmp 6) rfl hbk (by rw [HSW.out]; exact hWT) rfl ?_) | fail)
        exact ⟨⟨rfl, rfl, World.grownBy.refl _ _, rfl⟩, JSw6_far _ _ _ _ _ _ hj (by decide)⟩
      · intro L V w' hb hj hl hdo hcl hd
        clear hdo hcl
        simp only [DepFacts, SSw6, Region.binds, forall_const, and_true] at hd
        refine ⟨?_⟩
        simp only [fill, hd]
        clear hd
        go_wp2
        exact ⟨⟨rfl, rfl, World.grownBy.refl _ _, rfl⟩, (JSw6_far _ _ _ _ _ _ hj (by decide))⟩
      · intro L V w' hb hj hl hdo hcl hd
        have hoo := hj.1 hl
        clear hdo hcl
        simp only [DepFacts, SSw6, Region.binds, forall_const, and_true] at hd
        refine ⟨?_⟩
        simp only [fill, hd]
        clear hd
        simp only [Act.put, List.setIfInBounds_toArray, List.set_cons_zero, List.set_cons_succ]
        go_wp2_with (first | ((with_reducible refine gd_store ?_); refine wpList_store_word rfl (.tmp 54) (.tmp 53) rfl hoo hjn rfl rfl ?_; intro w9 ho9 hg9) | fail)
        refine ⟨⟨rfl, rfl, hg9, trivial⟩, ?_⟩
        unfold JSw6
        rw [updL_same]
        exact ⟨fun e => (by cases e), fun _ => ho9⟩
    · intro L V w6 hL hb6 hs hj
      have ho6 := hj.2 (hL 9 (by decide))
      clear hj hL hs
      have hm6 := hm5.drew.grown hb6 (by intro e; injection e with e; omega)
      simp only [fill]
      simp only [Exit.then]
      go_simp
      go_wp2
      go_ret
      have hW2 : Way2 g (some h) w w6 := ((Way2.of_below hB2).trans ⟨hb5.os, hb5.tape, hb5.output, hb5.size, fun i hi h1 h2 => hb5.block i hi h2⟩).trans ⟨hb6.os, hb6.tape, hb6.output, hb6.size, fun i hi h1 h2 => hb6.block i hi h2⟩
      refine ⟨rfl, ⟨_, _, rfl, by rw [HN.out]; exact hm6, by rw [HN.out]; exact ho6⟩, ?_, hW2⟩
      exact ⟨hW2.os, hW2.tape, hW2.output, hW2.size, fun i hi hne => hW2.block i (by omega) hne (by intro e; injection e with e; omega)⟩
end Go.Mun.RS
