/- slices.Reverse of a row of words of the call's own. -/
import Derived.Test.YtpliedimdhilcaaStackSet
import Derived.Deep.Cut
namespace Go.Mun
open Go Go.RowKit Go.Proofs

theorem end0 {P : Program} {fn : Func} {R : Ending → World → Prop} {a : Act} {w : World} (hr : fn.results = #[]) (hd : a.defers = []) (hR : R (.returned (.tuple #[])) w) : bodyPost P fn R .normal a w :=
  ⟨hd, .tuple #[], by simp [results, hr], hR⟩
/-- the first i and the last i words have changed places -/
def revTo (l : List Nat) (i : Nat) : List Nat := (List.range l.length).map fun p => if p < i ∨ l.length < p + i + 1 then l.getD (l.length - 1 - p) 0 else l.getD p 0
theorem revTo_length (l : List Nat) (i : Nat) : (revTo l i).length = l.length := by simp [revTo]
theorem revTo_get (l : List Nat) (i : Nat) {p : Nat} (hp : p < l.length) : (revTo l i)[p]? = some (if p < i ∨ l.length < p + i + 1 then l.getD (l.length - 1 - p) 0 else l.getD p 0) := by
  unfold revTo
  rw [List.getElem?_map, List.getElem?_range hp]
  rfl
theorem getD_some {l : List Nat} {p : Nat} (hp : p < l.length) : l[p]? = some (l.getD p 0) := by simp [hp]
theorem revTo_zero (l : List Nat) : revTo l 0 = l := by
  apply List.ext_getElem?
  intro p
  by_cases hp : p < l.length
  · rw [revTo_get l 0 hp, if_neg (by omega), getD_some hp]
  · rw [List.getElem?_eq_none (by rw [revTo_length]; omega), List.getElem?_eq_none (by omega)]
theorem revTo_end (l : List Nat) {i : Nat} (h : l.length ≤ 2 * i + 1) : revTo l i = l.reverse := by
  apply List.ext_getElem?
  intro p
  by_cases hp : p < l.length
  · rw [revTo_get l i hp, List.getElem?_reverse hp, getD_some (by omega)]
    by_cases h1 : p < i ∨ l.length < p + i + 1
    · rw [if_pos h1]
    · rw [if_neg h1, show l.length - 1 - p = p from by omega]
  · rw [List.getElem?_eq_none (by rw [revTo_length]; omega), List.getElem?_eq_none (by simp; omega)]
theorem revTo_step (l : List Nat) {i j x y : Nat} (hij : i < j) (hj : i + j + 1 = l.length) (hx : (revTo l i)[i]? = some x) (hy : (revTo l i)[j]? = some y) : ((revTo l i).set i y).set j x = revTo l (i + 1) := by
  rw [revTo_get l i (by omega), if_neg (by omega)] at hx
  rw [revTo_get l i (by omega), if_neg (by omega)] at hy
  injection hx with hx
  injection hy with hy
  apply List.ext_getElem?
  intro p
  by_cases hp : p < l.length
  · rw [List.getElem?_set, List.length_set, revTo_length, List.getElem?_set, revTo_length, revTo_get l (i + 1) hp]
    by_cases h1 : j = p
    · subst h1
      rw [if_pos rfl, if_pos hp, if_pos (by omega), show l.length - 1 - j = i from by omega, hx]
    · rw [if_neg h1]
      by_cases h2 : i = p
      · subst h2
        rw [if_pos rfl, if_pos hp, if_pos (by omega), show l.length - 1 - i = j from by omega, hy]
      · rw [if_neg h2, revTo_get l i hp]
        by_cases h3 : p < i ∨ l.length < p + i + 1
        · rw [if_pos h3, if_pos (by omega)]
        · rw [if_neg h3, if_neg (by omega)]
  · rw [List.getElem?_eq_none (by rw [List.length_set, List.length_set, revTo_length]; omega), List.getElem?_eq_none (by rw [revTo_length]; omega)]

/-- what each operation of the region writes -/
def SRev (h n c a j x y : Nat) : Nat → Value → World → Prop
  | 0, v, _ => v = .slice (some ⟨h, 0, none⟩) n c
  | 1, v, _ => v = .int .i64 (a : Nat)
  | 2, v, _ => v = .slice (some ⟨h, 0, none⟩) n c
  | 3, v, _ => v = .int .i64 (j : Nat)
  | 4, v, _ => v = .slice (some ⟨h, 0, none⟩) n c
  | 5, v, _ => v = .int .i64 (j : Nat)
  | 6, v, _ => v = .pointer (some ⟨h, j * 32, none⟩)
  | 7, v, _ => v = .agg (wcells y)
  | 8, v, _ => v = .slice (some ⟨h, 0, none⟩) n c
  | 9, v, _ => v = .int .i64 (a : Nat)
  | 10, v, _ => v = .pointer (some ⟨h, a * 32, none⟩)
  | 11, v, _ => v = .agg (wcells x)
  | 12, v, _ => v = .pointer (some ⟨h, a * 32, none⟩)
  | 13, _, _ => True
  | 14, v, _ => v = .pointer (some ⟨h, j * 32, none⟩)
  | _, _, _ => True
theorem SRev_stays (h n c a j x y : Nat) : ∀ i v (wa wb : World), wa.grownBy wb (some h) → SRev h n c a j x y i v wa → SRev h n c a j x y i v wb
  | 0, _, _, _, _, h => h
  | 1, _, _, _, _, h => h
  | 2, _, _, _, _, h => h
  | 3, _, _, _, _, h => h
  | 4, _, _, _, _, h => h
  | 5, _, _, _, _, h => h
  | 6, _, _, _, _, h => h
  | 7, _, _, _, _, h => h
  | 8, _, _, _, _, h => h
  | 9, _, _, _, _, h => h
  | 10, _, _, _, _, h => h
  | 11, _, _, _, _, h => h
  | 12, _, _, _, _, h => h
  | 13, _, _, _, _, h => h
  | 14, _, _, _, _, h => h
  | _ + 15, _, _, _, _, h => h
/-- how far the exchange has come -/
def JRev (base h n c : Nat) (l0 l1 l2 : List Nat) (L : Nat → Bool) (_ : Nat → Value) (w : World) : Prop :=
  (L 13 = false → w.ownsRow base 25 32 (.slice (some ⟨h, 0, none⟩) n c) n (wrow l0)) ∧ (L 13 = true → L 15 = false → w.ownsRow base 25 32 (.slice (some ⟨h, 0, none⟩) n c) n (wrow l1)) ∧ (L 15 = true → w.ownsRow base 25 32 (.slice (some ⟨h, 0, none⟩) n c) n (wrow l2))
theorem JRev_far (base h n c : Nat) (l0 l1 l2 : List Nat) {L : Nat → Bool} {V : Nat → Value} {w : World} (hJ : JRev base h n c l0 l1 l2 L V w) {k : Nat} {v : Value} (h13 : (13 : Nat) ≠ k) (h15 : (15 : Nat) ≠ k) : JRev base h n c l0 l1 l2 (updL L k) (upd V k v) w := by
  unfold JRev at hJ ⊢
  simp only [updL_ne h13, updL_ne h15]
  exact hJ

theorem Reverse_small (w : World) (n c : Nat) (A : Option Addr) (hn : n ≤ 1) :
    Calls Try.prog 44 #[.slice A n c] w fun e w' => e = .returned (.tuple #[]) ∧ w = w' := by
  go_enter Try.func44, Try.ntmps44
  go_wp2
  go_loopw [2, 3] (fun a b wr => a = .int .i64 0 ∧ b = .int .i64 ((n : Int) - 1) ∧ wr = w) (fun _ _ _ => 0)
  case atStart => exact ⟨rfl, rfl, rfl⟩
  case round =>
    obtain ⟨rfl, rfl, rfl⟩ := hrel
    have b3 : decide ((0 : Int) < (n : Int) - 1) = false := decide_eq_false (by omega)
    go_wp2
    exact end0 rfl rfl ⟨rfl, rfl⟩

set_option maxRecDepth 100000 in
set_option maxHeartbeats 1000000 in
theorem Reverse_go (w : World) (base h n c : Nat) (l : List Nat) (ho : w.ownsRow base 25 32 (.slice (some ⟨h, 0, none⟩) n c) n (wrow l)) (hln : l.length = n) (hn : n ≤ 100000) :
    Calls Try.prog 44 #[.slice (some ⟨h, 0, none⟩) n c] w fun e w' =>
      e = .returned (.tuple #[]) ∧ w'.ownsRow base 25 32 (.slice (some ⟨h, 0, none⟩) n c) n (wrow l.reverse) ∧ w.grownBy w' (some h) := by
  have hu := Try.underlying25
  have hi : ∀ x, (Try.prog.info? 25).map (·.size) = some (wcells x).toList.length := fun x => by rw [Array.length_toList, wcells_size]; kernel_rfl
  have HL := Lib.hid hln
  have HO := Lib.hid (show w.ownsRow base 25 32 (.slice (some ⟨h, 0, none⟩) n c) n (wrow (revTo l 0)) by rw [revTo_zero]; exact ho)
  clear ho hln
  go_enter Try.func44, Try.ntmps44
  go_wp2
  go_loopw [2, 3] (fun a b wr => ∃ i : Nat, 2 * i ≤ n + 1 ∧ a = .int .i64 i ∧ b = .int .i64 ((n : Int) - 1 - i) ∧ w.grownBy wr (some h) ∧ wr.ownsRow base 25 32 (.slice (some ⟨h, 0, none⟩) n c) n (wrow (revTo l i))) (fun a _ _ => n - (intOf a).toNat)
  case atStart => exact ⟨0, by omega, rfl, by simp, World.grownBy.refl _ _, HO.out⟩
  case round =>
    obtain ⟨i, hin2, rfl, rfl, hgr, hor⟩ := hrel
    by_cases hlt : 2 * i + 1 < n
    · obtain ⟨j, hj⟩ : ∃ j, i + j + 1 = n := ⟨n - 1 - i, by omega⟩
      have ej : (n : Int) - 1 - i = j := by omega
      rw [ej]
      have hin : i < n := by omega
      have hjn : j < n := by omega
      have b1 : (0 : Int) ≤ i ∧ (0 : Int) ≤ j := by omega
      have b2 : (i : Int) < n ∧ (j : Int) < n := by omega
      have b3 : decide ((i : Int) < j) = true := decide_eq_true (by omega)
      have hil : i < (revTo l i).length := by rw [revTo_length, HL.out]; omega
      have hjl : j < (revTo l i).length := by rw [revTo_length, HL.out]; omega
      obtain ⟨x, hx⟩ : ∃ x, (revTo l i)[i]? = some x := ⟨_, List.getElem?_eq_getElem hil⟩
      obtain ⟨y, hy⟩ : ∃ y, (revTo l i)[j]? = some y := ⟨_, List.getElem?_eq_getElem hjl⟩
      have HST := Lib.hid (revTo_step l (show i < j by omega) (by rw [HL.out]; exact hj) hx hy)
      clear hil hjl
      go_upto_region 3 with (fail)
      refine wp_region_phase (by kernel_rfl) (by kernel_rfl) (by kernel_rfl) (fun w w' => w.grownBy w' (some h)) (fun _ => World.grownBy.refl _ _) (fun _ _ _ h k => h.trans k) (SRev h n c i j x y) (SRev_stays _ _ _ _ _ _ _) (JRev base h n c (revTo l i) ((revTo l i).set i y) (((revTo l i).set i y).set j x))
        ⟨fun _ => own_drew hor, fun h => (by cases h), fun h => (by cases h)⟩ ?_ ?_
      · simp only [PhStep]
        refine ⟨?_, ?_, ?_, ?_, ?_, ?_, ?_, ?_, ?_, ?_, ?_, ?_, ?_, ?_, ?_, ?_, trivial⟩
        · intro L V w' hb hj hl hdo hcl hd
          clear hdo hcl
          clear hd
          refine ⟨?_⟩
          simp only [fill]
          go_wp2
          exact ⟨⟨rfl, rfl, World.grownBy.refl _ _, rfl⟩, (JRev_far _ _ _ _ _ _ _ hj (by decide) (by decide))⟩
        · intro L V w' hb hj hl hdo hcl hd
          clear hdo hcl
          clear hd
          refine ⟨?_⟩
          simp only [fill]
          go_wp2
          exact ⟨⟨rfl, rfl, World.grownBy.refl _ _, rfl⟩, (JRev_far _ _ _ _ _ _ _ hj (by decide) (by decide))⟩
        · intro L V w' hb hj hl hdo hcl hd
          clear hdo hcl
          clear hd
          refine ⟨?_⟩
          simp only [fill]
          go_wp2
          exact ⟨⟨rfl, rfl, World.grownBy.refl _ _, rfl⟩, (JRev_far _ _ _ _ _ _ _ hj (by decide) (by decide))⟩
        · intro L V w' hb hj hl hdo hcl hd
          clear hdo hcl
          clear hd
          refine ⟨?_⟩
          simp only [fill]
          go_wp2
          exact ⟨⟨rfl, rfl, World.grownBy.refl _ _, rfl⟩, (JRev_far _ _ _ _ _ _ _ hj (by decide) (by decide))⟩
        · intro L V w' hb hj hl hdo hcl hd
          clear hdo hcl
          clear hd
          refine ⟨?_⟩
          simp only [fill]
          go_wp2
          exact ⟨⟨rfl, rfl, World.grownBy.refl _ _, rfl⟩, (JRev_far _ _ _ _ _ _ _ hj (by decide) (by decide))⟩
        · intro L V w' hb hj hl hdo hcl hd
          clear hdo hcl
          clear hd
          refine ⟨?_⟩
          simp only [fill]
          go_wp2
          exact ⟨⟨rfl, rfl, World.grownBy.refl _ _, rfl⟩, (JRev_far _ _ _ _ _ _ _ hj (by decide) (by decide))⟩
        · intro L V w' hb hj hl hdo hcl hd
          clear hdo hcl
          simp only [DepFacts, SRev, Region.binds, forall_const, and_true] at hd
          refine ⟨?_⟩
          simp only [fill, hd]
          clear hd
          go_wp2
          exact ⟨⟨rfl, rfl, World.grownBy.refl _ _, rfl⟩, (JRev_far _ _ _ _ _ _ _ hj (by decide) (by decide))⟩
        · intro L V w' hb hj hl hdo hcl hd
          have hoo := hj.1 (Bool.eq_false_iff.2 fun e => by have := hcl 13 7 (by kernel_rfl) e; rw [this] at hl; cases hl)
          have hr1 := row_word hoo hy
          clear hdo hcl
          simp only [DepFacts, SRev, Region.binds, forall_const, and_true] at hd
          refine ⟨?_⟩
          simp only [fill, hd]
          clear hd
          simp only [Act.put, List.setIfInBounds_toArray, List.set_cons_zero, List.set_cons_succ]
          go_wp2_with (first | ((with_reducible refine gd_load ?_); refine wpList_load_mid rfl 25 (.tmp 20) rfl h (j * 32) rfl (wcells _).toList _ hr1 hu rfl (hi _) ?_) | fail)
          exact ⟨⟨rfl, rfl, World.grownBy.refl _ _, rfl⟩, JRev_far _ _ _ _ _ _ _ hj (by decide) (by decide)⟩
        · intro L V w' hb hj hl hdo hcl hd
          clear hdo hcl
          clear hd
          refine ⟨?_⟩
          simp only [fill]
          go_wp2
          exact ⟨⟨rfl, rfl, World.grownBy.refl _ _, rfl⟩, (JRev_far _ _ _ _ _ _ _ hj (by decide) (by decide))⟩
        · intro L V w' hb hj hl hdo hcl hd
          clear hdo hcl
          clear hd
          refine ⟨?_⟩
          simp only [fill]
          go_wp2
          exact ⟨⟨rfl, rfl, World.grownBy.refl _ _, rfl⟩, (JRev_far _ _ _ _ _ _ _ hj (by decide) (by decide))⟩
        · intro L V w' hb hj hl hdo hcl hd
          clear hdo hcl
          simp only [DepFacts, SRev, Region.binds, forall_const, and_true] at hd
          refine ⟨?_⟩
          simp only [fill, hd]
          clear hd
          go_wp2
          exact ⟨⟨rfl, rfl, World.grownBy.refl _ _, rfl⟩, (JRev_far _ _ _ _ _ _ _ hj (by decide) (by decide))⟩
        · intro L V w' hb hj hl hdo hcl hd
          have hoo := hj.1 (Bool.eq_false_iff.2 fun e => by have := hcl 13 11 (by kernel_rfl) e; rw [this] at hl; cases hl)
          have hr1 := row_word hoo hx
          clear hdo hcl
          simp only [DepFacts, SRev, Region.binds, forall_const, and_true] at hd
          refine ⟨?_⟩
          simp only [fill, hd]
          clear hd
          simp only [Act.put, List.setIfInBounds_toArray, List.set_cons_zero, List.set_cons_succ]
          go_wp2_with (first | ((with_reducible refine gd_load ?_); refine wpList_load_mid rfl 25 (.tmp 24) rfl h (i * 32) rfl (wcells _).toList _ hr1 hu rfl (hi _) ?_) | fail)
          exact ⟨⟨rfl, rfl, World.grownBy.refl _ _, rfl⟩, JRev_far _ _ _ _ _ _ _ hj (by decide) (by decide)⟩
        · intro L V w' hb hj hl hdo hcl hd
          clear hdo hcl
          simp only [DepFacts, SRev, Region.binds, forall_const, and_true] at hd
          refine ⟨?_⟩
          simp only [fill, hd]
          clear hd
          go_wp2
          exact ⟨⟨rfl, rfl, World.grownBy.refl _ _, rfl⟩, (JRev_far _ _ _ _ _ _ _ hj (by decide) (by decide))⟩
        · intro L V w' hb hj hl hdo hcl hd
          have hoo := hj.1 hl
          have hl2 : L 15 = false := Bool.eq_false_iff.2 fun e => by have := hcl 15 13 (by kernel_rfl) e; rw [this] at hl; cases hl
          clear hdo hcl
          simp only [DepFacts, SRev, Region.binds, forall_const, and_true] at hd
          refine ⟨?_⟩
          simp only [fill, hd]
          clear hd
          simp only [Act.put, List.setIfInBounds_toArray, List.set_cons_zero, List.set_cons_succ]
          go_wp2_with (first | ((with_reducible refine gd_store ?_); refine wpList_store_word rfl (.tmp 26) (.tmp 21) rfl hoo hin rfl rfl ?_; intro w9 ho9 hg9) | fail)
          refine ⟨⟨rfl, rfl, hg9, trivial⟩, ?_⟩
          unfold JRev
          rw [updL_same, updL_ne (by decide), hl2]
          exact ⟨fun e => (by cases e), fun _ _ => ho9, fun e => (by cases e)⟩
        · intro L V w' hb hj hl hdo hcl hd
          clear hdo hcl
          simp only [DepFacts, SRev, Region.binds, forall_const, and_true] at hd
          refine ⟨?_⟩
          simp only [fill, hd]
          clear hd
          go_wp2
          exact ⟨⟨rfl, rfl, World.grownBy.refl _ _, rfl⟩, (JRev_far _ _ _ _ _ _ _ hj (by decide) (by decide))⟩
        · intro L V w' hb hj hl hdo hcl hd
          have h1 : L 13 = true := hdo 13 (by kernel_rfl)
          have hoo := hj.2.1 h1 hl
          clear hdo hcl
          simp only [DepFacts, SRev, Region.binds, forall_const, and_true] at hd
          refine ⟨?_⟩
          simp only [fill, hd]
          clear hd
          simp only [Act.put, List.setIfInBounds_toArray, List.set_cons_zero, List.set_cons_succ]
          go_wp2_with (first | ((with_reducible refine gd_store ?_); refine wpList_store_word rfl (.tmp 27) (.tmp 25) rfl hoo hjn rfl rfl ?_; intro w9 ho9 hg9) | fail)
          refine ⟨⟨rfl, rfl, hg9, trivial⟩, ?_⟩
          unfold JRev
          rw [updL_same, updL_ne (by decide), h1]
          exact ⟨fun e => (by cases e), fun _ e => (by cases e), fun _ => ho9⟩
      · intro L V w' hL hb hs hj
        have h15 := hj.2.2 (hL 15 (by decide))
        rw [HST.out] at h15
        clear hj hL hs
        simp only [fill]
        try simp only [Exit.then]
        go_simp
        go_wp2
        go_roundw
        case rel =>
          have hbd : wr.grownBy w' (some h) := ⟨hb.os, hb.tape, hb.output, hb.size, hb.block⟩
          have hgw : w.grownBy w' (some h) := hgr.trans hbd
          first
            | exact ⟨i + 1, by omega, by go_num, by go_num, hgw, h15⟩
            | ((repeat apply Exists.intro); exact ⟨⟨i + 1, by omega, by go_num, by go_num, hgw, h15⟩, rfl⟩)
        case measure => simp [intOf]; omega
    · have b3 : decide ((i : Int) < (n : Int) - 1 - i) = false := decide_eq_false (by omega)
      rw [revTo_end l (by rw [HL.out]; omega)] at hor
      go_wp2
      exact end0 rfl rfl ⟨rfl, hor, hgr⟩
end Go.Mun
