/- The reference's 'Pop'. -/
import Derived.Test.YtpliedimdhilcaaRefPush
import Derived.Test.YtpliedimdhilcaaPop
import Derived.Test.YtpliedimdhilcaaLate
import Derived.StillTailTactics
namespace Go.Mun.RS
open Go Go.RowKit Go.Proofs Go.Mun

theorem below_grown' {w w' : World} (h : Below w.heap.size w w') (row : Option Nat) : w.grownBy w' row := ⟨h.os, h.tape, h.output, h.size, fun g hg _ => h.block g hg⟩
theorem rev_take {l : List Nat} {k n t p x : Nat} (hn : n = l.length) (hp : p + 1 + t = n) (hk : k ≤ p) (hx : l[p]? = some x) : (l.drop k).reverse.take (t + 1) = (l.drop k).reverse.take t ++ [x] := by
  rw [List.take_add_one]
  congr 1
  have : (l.drop k).reverse[t]? = some x := by
    rw [List.getElem?_reverse (by rw [List.length_drop]; omega), List.length_drop, List.getElem?_drop, show k + (l.length - k - 1 - t) = p from by omega]
    exact hx
  rw [this]
  rfl
/-- what each operation of the region writes -/
def SPp (g h n c t p x : Nat) (ro : Option Nat) (v6 : Value) : Nat → Value → World → Prop
  | 0, v, _ => v = v6
  | 1, v, _ => v = .pointer (some ⟨g, 0, none⟩)
  | 2, v, _ => v = .pointer (some ⟨g, 0, none⟩)
  | 3, v, _ => v = .pointer (some ⟨g, 0, none⟩)
  | 4, v, _ => v = .slice (some ⟨h, 0, none⟩) n c
  | 5, v, _ => v = .pointer (some ⟨g, 0, none⟩)
  | 6, v, _ => v = .pointer (some ⟨g, 0, none⟩)
  | 7, v, _ => v = .pointer (some ⟨g, 0, none⟩)
  | 8, v, _ => v = .slice (some ⟨h, 0, none⟩) n c
  | 9, v, _ => v = .int .i64 (n : Nat)
  | 10, v, _ => v = .int .i64 ((n : Int) - 1)
  | 11, v, _ => v = .int .i64 (t : Nat)
  | 12, v, _ => v = .int .i64 (p : Nat)
  | 13, v, _ => v = .pointer (some ⟨h, p * 32, none⟩)
  | 14, v, _ => v = .agg (wcells x)
  | 15, v, w => ∃ b, v = .slice (some ⟨b, 0, none⟩) 1 1 ∧ some b ≠ ro ∧ Blk w b 25 (wcells x)
  | 16, _, _ => True
  | _, _, _ => True
theorem SPp_stays (g h n c t p x : Nat) (ro : Option Nat) (v6 : Value) : ∀ i v (wa wb : World), wa.grownBy wb ro → SPp g h n c t p x ro v6 i v wa → SPp g h n c t p x ro v6 i v wb
  | 0, _, _, _, _, h => h
  | 1, _, _, _, _, h => h
  | 2, _, _, _, _, h => h
  | 3, _, _, _, _, h => h
  | 4, _, _, _, _, h => h
  | 5, _, _, _, _, h => h
  | 6, _, _, _, _, h => h
  | 7, _, _, _, _, h => h
  | 8, _, _, _, _, h => h
  | 9, _, _, _, _, h => h
  | 10, _, _, _, _, h => h
  | 11, _, _, _, _, h => h
  | 12, _, _, _, _, h => h
  | 13, _, _, _, _, h => h
  | 14, _, _, _, _, h => h
  | 15, _, _, _, hb, ⟨b, h1, h2, h3⟩ => ⟨b, h1, h2, h3.grown hb h2⟩
  | 16, _, _, _, _, h => h
  | _ + 17, _, _, _, _, h => h
/-- how far it has come -/
def JPp (B t : Nat) (xs ys : List Nat) (v6 : Value) (L : Nat → Bool) (V : Nat → Value) (w : World) : Prop :=
  (L 16 = false → w.ownsRow B 25 32 v6 t (wrow xs)) ∧ (L 16 = true → w.ownsRow B 25 32 (V 16) (t + 1) (wrow ys)) ∧ (L 17 = true → V 17 = V 16)
theorem JPp_far {B t : Nat} {xs ys : List Nat} {v6 : Value} {L : Nat → Bool} {V : Nat → Value} {w : World} (hJ : JPp B t xs ys v6 L V w) {k : Nat} {v : Value} (h16 : (16 : Nat) ≠ k) (h17 : (17 : Nat) ≠ k) : JPp B t xs ys v6 (updL L k) (upd V k v) w := by
  unfold JPp at hJ ⊢
  simp only [updL_ne h16, updL_ne h17, upd_ne h16, upd_ne h17]
  exact hJ

theorem Pop_no (i : Int) (w : World) (g n c : Nat) (A : Option Addr) (_h1 : -9223372036854775808 ≤ i) (_h2 : i ≤ 9223372036854775807) (hm : Blk w g 63 #[.slice A n c]) (h : i < 0 ∨ (n : Int) < i) :
    Calls Try.prog 38 #[.pointer (some ⟨g, 0, none⟩), .int .i64 i] w fun e w' => e = .returned (.tuple #[.slice none 0 0, .bool false]) ∧ w = w' := by
  have hc := hm.cellv (i := 0) rfl
  by_cases h1 : i < 0
  · have d1 : decide (i < 0) = true := decide_eq_true h1
    clear h
    go_enter Try.func38, Try.ntmps38
    go_wp2
    go_ret2
    exact ⟨rfl, rfl⟩
  · have d1 : decide (i < 0) = false := decide_eq_false h1
    have d2 : decide ((n : Int) < i) = true := decide_eq_true (by omega)
    clear h
    go_enter Try.func38, Try.ntmps38
    go_wp2
    go_ret2
    exact ⟨rfl, rfl⟩

set_option maxRecDepth 100000 in
set_option maxHeartbeats 2000000 in
theorem Pop_all (m k : Nat) (w : World) (g base : Nat) (l : List Nat) (r : Option Nat) (h : StR w g base l r) (hg : g < base) (hbs : base ≤ w.heap.size) (hk : k + m = l.length) (hl : l.length ≤ 100000) :
    Calls Try.prog 38 #[.pointer (some ⟨g, 0, none⟩), .int .i64 (m : Nat)] w fun e w' =>
      ∃ A' c', e = .returned (.tuple #[.slice A' m c', .bool true]) ∧ w'.ownsRow w.heap.size 25 32 (.slice A' m c') m (wrow (l.drop k).reverse) ∧ StR w' g base (l.take k) r ∧ Kept base g w w' ∧ Way2 g none w w' := by
  obtain ⟨A, c, hro, hm, ho⟩ := h
  obtain ⟨n, hn⟩ : ∃ n, n = l.length := ⟨_, rfl⟩
  have HTL := Lib.hid (show (l.take k).length = k by rw [List.length_take]; omega)
  have HFT := Lib.hid (show (l.drop k).reverse.take m = (l.drop k).reverse from List.take_of_length_le (by rw [List.length_reverse, List.length_drop]; omega))
  have HNL := Lib.hid hn
  rw [← hn] at hro hm ho hk hl
  have HRO0 := Lib.hid (show Value.ownBlock (.slice A k c) = r by rw [← hro]; cases A <;> rfl)
  have hnc : n ≤ c := by
    rcases ho.2 with ⟨e1, e2⟩ | ⟨g', cap, cur, e1, _, _, hc, _⟩
    · omega
    · injection e1 with e1 e2 e3; omega
  have HLG := Lib.hid (fun p (hp : p < n) => show l[p]? = some (l.getD p 0) by rw [List.getD_eq_getElem?_getD, List.getElem?_eq_getElem (by omega)]; rfl)
  clear hn
  have hT := wordsTy
  have HSW := Lib.hid wcells_size
  have hu := Try.underlying25
  have hi : ∀ x, (Try.prog.info? 25).map (·.size) = some (wcells x).toList.length := fun x => by rw [Array.length_toList, wcells_size]; kernel_rfl
  have HS := Lib.hid (show (Try.prog.info? 41).map (·.size) = some 1 by kernel_rfl)
  have d1 : decide ((m : Int) < 0) = false := decide_eq_false (by omega)
  have d2 : decide ((n : Int) < m) = false := decide_eq_false (by omega)
  have hc := hm.cellv (i := 0) rfl
  have E1 : (n : Int) - m = k := by omega
  have hrun2 := cutw_h hT A n c (kh := .i64) (hi' := IntKind.i64.wrap (k : Nat)) (hi := k) (IntWalk.i64_in _ (by omega)) (by omega)
  have HOH := Lib.hid (fun w' (hO : World.ownsRow w' base 25 32 (.slice A n c) n (wrow l)) => by
    have := own_head hO (show k ≤ n by omega)
    rw [wrow_take] at this
    exact this)
  obtain ⟨B, hB1, hB2⟩ : ∃ B, B ≤ w.heap.size ∧ w.heap.size ≤ B := ⟨_, Nat.le_refl _, Nat.le_refl _⟩
  have hgB : g < B := by omega
  have hBw : Below B w w := Below.refl _ _
  go_enter Try.func38, Try.ntmps38
  go_wp2
  go_loopw [6, 7] (fun v6 i wr => ∃ t : Nat, t ≤ m ∧ i = .int .i64 t ∧ Below B w wr ∧ wr.ownsRow B 25 32 v6 t (wrow ((l.drop k).reverse.take t))) (fun _ i _ => m - (intOf i).toNat)
  case atStart => exact ⟨0, Nat.zero_le _, rfl, hBw, World.ownsRow_nil _ _ _ _⟩
  case round =>
    obtain ⟨t, ht, rfl, hBr, ho6⟩ := hrel
    have hmr := hm.below hBr hgB
    have hcr := hmr.cellv (i := 0) rfl
    by_cases hlt : t < m
    · obtain ⟨p, hp⟩ : ∃ p, p + 1 + t = n := ⟨n - 1 - t, by omega⟩
      have hpn : p < n := by omega
      have hxx := HLG.out p hpn
      generalize l.getD p 0 = x at hxx
      have HYS := Lib.hid (rev_take (k := k) HNL.out hp (by omega) hxx)
      obtain ⟨h, c1, e, hh1, hh2⟩ := own_pos ho (by omega)
      injection e with e1 e2 e3
      subst e1 e3
      obtain ⟨ro, hroE⟩ : ∃ ro, ro = Value.ownBlock u6 := ⟨_, rfl⟩
      have hroS : ∀ q, ro = some q → q < wr.heap.size := fun q e => (ho6.lt q (hroE.symm.trans e)).2
      have hroB : ∀ q, ro = some q → B ≤ q := fun q e => (ho6.lt q (hroE.symm.trans e)).1
      have HRO := Lib.hid (fun (x y : World) (hg : x.grownBy y (Value.ownBlock u6)) => show x.grownBy y ro by rw [hroE]; exact hg)
      have HRB := Lib.hid (fun y (hg : wr.drew.grownBy y ro) => show Below B w y from Below.grown (below_drewN hBr 1) hg (by have := hBr.size; show B ≤ wr.heap.size; omega) hroB)
      have hgr : some g ≠ ro := fun e => by have := hroB _ e.symm; omega
      have hhr : some h ≠ ro := fun e => by have := hroB _ e.symm; omega
      have HC := Lib.hid (fun w' (hb : World.grownBy wr.drew w' ro) => (hmr.drew.grown hb hgr).cellv (i := 0) rfl)
      have HR := Lib.hid (fun w' (hb : World.grownBy wr.drew w' ro) => row_word (own_ext ho ((HRB.out _ hb).mono hB2)) hxx)
      have d3 : decide ((t : Int) < m) = true := decide_eq_true (by omega)
      have E4 : (n : Int) - 1 - t = p := by omega
      have b1 : (0 : Int) ≤ p := by omega
      have b2 : (p : Int) < n := by omega
      have hJ0 := own_drew ho6
      clear hroE
      generalize u6 = v6 at *
      go_upto_region 7 with (fail)
      refine wp_region_late 17 1 (by kernel_rfl) (by kernel_rfl) (by kernel_rfl) (fun w w' => w.grownBy w' ro) (fun _ => World.grownBy.refl _ _) (fun _ _ _ h k => h.trans k) (SPp g h n c t p x ro v6) (SPp_stays g h n c t p x ro v6) (JPp B t ((l.drop k).reverse.take t) ((l.drop k).reverse.take (t + 1)) v6)
        ⟨fun _ => hJ0, fun h => (by cases h), fun h => (by cases h)⟩ ?_ ?_
      · simp only [PhStep]
        refine ⟨?_, ?_, ?_, ?_, ?_, ?_, ?_, ?_, ?_, ?_, ?_, ?_, ?_, ?_, ?_, ?_, ?_, ?_, trivial⟩
        · intro L V w' hb hj hl hdo hcl hd
          clear hdo hcl
          clear hd
          refine ⟨?_⟩
          simp only [fillX, ne_eq, Nat.reduceEqDiff, not_false_eq_true, not_true_eq_false, if_true, if_false]
          go_wp2
          exact ⟨⟨rfl, rfl, World.grownBy.refl _ _, rfl⟩, JPp_far hj (by decide) (by decide)⟩
        · intro L V w' hb hj hl hdo hcl hd
          clear hdo hcl
          clear hd
          refine ⟨?_⟩
          simp only [fillX, ne_eq, Nat.reduceEqDiff, not_false_eq_true, not_true_eq_false, if_true, if_false]
          go_wp2
          exact ⟨⟨rfl, rfl, World.grownBy.refl _ _, rfl⟩, JPp_far hj (by decide) (by decide)⟩
        · intro L V w' hb hj hl hdo hcl hd
          clear hdo hcl
          simp only [DepFacts, SPp, Region.binds, forall_const, and_true] at hd
          refine ⟨?_⟩
          simp only [fillX, ne_eq, Nat.reduceEqDiff, not_false_eq_true, not_true_eq_false, if_true, if_false, hd]
          clear hd
          go_wp2
          exact ⟨⟨rfl, rfl, World.grownBy.refl _ _, rfl⟩, JPp_far hj (by decide) (by decide)⟩
        · intro L V w' hb hj hl hdo hcl hd
          clear hdo hcl
          simp only [DepFacts, SPp, Region.binds, forall_const, and_true] at hd
          refine ⟨?_⟩
          simp only [fillX, ne_eq, Nat.reduceEqDiff, not_false_eq_true, not_true_eq_false, if_true, if_false, hd]
          clear hd
          go_wp2
          exact ⟨⟨rfl, rfl, World.grownBy.refl _ _, rfl⟩, JPp_far hj (by decide) (by decide)⟩
        · intro L V w' hb hj hl hdo hcl hd
          have hc1 := HC.out _ hb
          clear hdo hcl
          simp only [DepFacts, SPp, Region.binds, forall_const, and_true] at hd
          refine ⟨?_⟩
          simp only [fillX, ne_eq, Nat.reduceEqDiff, not_false_eq_true, not_true_eq_false, if_true, if_false, hd]
          clear hd
          go_wp2
          exact ⟨⟨rfl, rfl, World.grownBy.refl _ _, rfl⟩, JPp_far hj (by decide) (by decide)⟩
        · intro L V w' hb hj hl hdo hcl hd
          clear hdo hcl
          clear hd
          refine ⟨?_⟩
          simp only [fillX, ne_eq, Nat.reduceEqDiff, not_false_eq_true, not_true_eq_false, if_true, if_false]
          go_wp2
          exact ⟨⟨rfl, rfl, World.grownBy.refl _ _, rfl⟩, JPp_far hj (by decide) (by decide)⟩
        · intro L V w' hb hj hl hdo hcl hd
          clear hdo hcl
          simp only [DepFacts, SPp, Region.binds, forall_const, and_true] at hd
          refine ⟨?_⟩
          simp only [fillX, ne_eq, Nat.reduceEqDiff, not_false_eq_true, not_true_eq_false, if_true, if_false, hd]
          clear hd
          go_wp2
          exact ⟨⟨rfl, rfl, World.grownBy.refl _ _, rfl⟩, JPp_far hj (by decide) (by decide)⟩
        · intro L V w' hb hj hl hdo hcl hd
          clear hdo hcl
          simp only [DepFacts, SPp, Region.binds, forall_const, and_true] at hd
          refine ⟨?_⟩
          simp only [fillX, ne_eq, Nat.reduceEqDiff, not_false_eq_true, not_true_eq_false, if_true, if_false, hd]
          clear hd
          go_wp2
          exact ⟨⟨rfl, rfl, World.grownBy.refl _ _, rfl⟩, JPp_far hj (by decide) (by decide)⟩
        · intro L V w' hb hj hl hdo hcl hd
          have hc1 := HC.out _ hb
          clear hdo hcl
          simp only [DepFacts, SPp, Region.binds, forall_const, and_true] at hd
          refine ⟨?_⟩
          simp only [fillX, ne_eq, Nat.reduceEqDiff, not_false_eq_true, not_true_eq_false, if_true, if_false, hd]
          clear hd
          go_wp2
          exact ⟨⟨rfl, rfl, World.grownBy.refl _ _, rfl⟩, JPp_far hj (by decide) (by decide)⟩
        · intro L V w' hb hj hl hdo hcl hd
          clear hdo hcl
          simp only [DepFacts, SPp, Region.binds, forall_const, and_true] at hd
          refine ⟨?_⟩
          simp only [fillX, ne_eq, Nat.reduceEqDiff, not_false_eq_true, not_true_eq_false, if_true, if_false, hd]
          clear hd
          go_wp2
          exact ⟨⟨rfl, rfl, World.grownBy.refl _ _, rfl⟩, JPp_far hj (by decide) (by decide)⟩
        · intro L V w' hb hj hl hdo hcl hd
          clear hdo hcl
          simp only [DepFacts, SPp, Region.binds, forall_const, and_true] at hd
          refine ⟨?_⟩
          simp only [fillX, ne_eq, Nat.reduceEqDiff, not_false_eq_true, not_true_eq_false, if_true, if_false, hd]
          clear hd
          go_wp2
          exact ⟨⟨rfl, rfl, World.grownBy.refl _ _, rfl⟩, JPp_far hj (by decide) (by decide)⟩
        · intro L V w' hb hj hl hdo hcl hd
          clear hdo hcl
          clear hd
          refine ⟨?_⟩
          simp only [fillX, ne_eq, Nat.reduceEqDiff, not_false_eq_true, not_true_eq_false, if_true, if_false]
          go_wp2
          exact ⟨⟨rfl, rfl, World.grownBy.refl _ _, rfl⟩, JPp_far hj (by decide) (by decide)⟩
        · intro L V w' hb hj hl hdo hcl hd
          clear hdo hcl
          simp only [DepFacts, SPp, Region.binds, forall_const, and_true] at hd
          refine ⟨?_⟩
          simp only [fillX, ne_eq, Nat.reduceEqDiff, not_false_eq_true, not_true_eq_false, if_true, if_false, hd]
          clear hd
          go_wp2
          exact ⟨⟨rfl, rfl, World.grownBy.refl _ _, rfl⟩, JPp_far hj (by decide) (by decide)⟩
        · intro L V w' hb hj hl hdo hcl hd
          clear hdo hcl
          simp only [DepFacts, SPp, Region.binds, forall_const, and_true] at hd
          refine ⟨?_⟩
          simp only [fillX, ne_eq, Nat.reduceEqDiff, not_false_eq_true, not_true_eq_false, if_true, if_false, hd]
          clear hd
          go_wp2
          exact ⟨⟨rfl, rfl, World.grownBy.refl _ _, rfl⟩, JPp_far hj (by decide) (by decide)⟩
        · intro L V w' hb hj hl hdo hcl hd
          have hr1 := HR.out _ hb
          clear hdo hcl
          simp only [DepFacts, SPp, Region.binds, forall_const, and_true] at hd
          refine ⟨?_⟩
          simp only [fillX, ne_eq, Nat.reduceEqDiff, not_false_eq_true, not_true_eq_false, if_true, if_false, hd]
          clear hd
          simp only [Act.put, List.setIfInBounds_toArray, List.set_cons_zero, List.set_cons_succ]
          go_wp2_with (first | ((with_reducible refine gd_load ?_); refine wpList_load_mid rfl 25 (.tmp 37) rfl h (p * 32) rfl (wcells x).toList _ hr1 hu rfl (hi _) ?_) | fail)
          exact ⟨⟨rfl, rfl, World.grownBy.refl _ _, rfl⟩, JPp_far hj (by decide) (by decide)⟩
        · intro L V w' hb hj hl hdo hcl hd
          have hzr := hb.size
          have hzl := hroS
          clear hdo hcl
          simp only [DepFacts, SPp, Region.binds, forall_const, and_true] at hd
          refine ⟨?_⟩
          simp only [fillX, ne_eq, Nat.reduceEqDiff, not_false_eq_true, not_true_eq_false, if_true, if_false, hd]
          clear hd
          simp only [Act.put, List.setIfInBounds_toArray, List.set_cons_zero, List.set_cons_succ]
          go_wp2_with (first | (refine wpList_row_one rfl (.tmp 38) rfl hT (by decide) rfl (HSW.out _) ?_; intro w6 hx6 hb6 hl6) | fail)
          refine ⟨⟨rfl, rfl, below_grown' hb6 _, _, rfl, fun e => by have := hzl _ e.symm; have : wr.drew.heap.size = wr.heap.size := rfl; omega, hx6⟩, ?_⟩
          refine JPp_far ?_ (by decide) (by decide)
          exact ⟨fun e => own_ext (hj.1 e) hb6, fun e => own_ext (hj.2.1 e) hb6, hj.2.2⟩
        · intro L V w' hb hj hl hdo hcl hd
          clear hdo
          have hl17 : L 17 = false := Bool.eq_false_iff.2 fun e => by have := hcl 17 16 (by kernel_rfl) e; rw [this] at hl; cases hl
          have hoo := hj.1 hl
          clear hcl
          simp only [DepFacts, SPp, Region.binds, forall_const, and_true] at hd
          obtain ⟨h0, b, h15, hbr, hxb⟩ := hd
          have hbs : B ≤ w'.heap.size := by have h1 := hBr.size; have h2 := hb.size; have h3 : wr.drew.heap.size = wr.heap.size := rfl; omega
          refine ⟨?_⟩
          simp only [fillX, ne_eq, Nat.reduceEqDiff, not_false_eq_true, not_true_eq_false, if_true, if_false, h0, h15]
          clear h0 h15
          simp only [Act.put, List.setIfInBounds_toArray, List.set_cons_zero, List.set_cons_succ]
          go_wp2_with (first | (at_builtin; refine wpList_append_rd _ rfl (.tmp 24) (.tmp 39) _ rfl B _ _ 32 32 hT v6 t (wrow _) rfl hoo (some ⟨b, 0, none⟩) 1 1 (wrow [x]) rfl (wrow_length _) (by rw [wrow_one]; exact hxb.rd) (wrow_oneCell _) (by unfold maxLen; omega) (by omega) (by omega) ?_; intro v7 w7 ho7 hg7 hat7; rw [← wrow_append, ← HYS.out] at ho7) | fail)
          refine ⟨⟨rfl, rfl, HRO.out _ _ hg7, trivial⟩, ?_⟩
          unfold JPp
          rw [updL_same, updL_ne (by decide), upd_same, hl17]
          exact ⟨fun e => (by cases e), fun _ => ho7, fun e => (by cases e)⟩
        · intro L V w' hb hj hl hdo hcl hd
          have h16 : L 16 = true := hdo 16 (by kernel_rfl)
          clear hdo hcl hd
          refine ⟨?_⟩
          simp only [fillX, ne_eq, Nat.reduceEqDiff, not_false_eq_true, not_true_eq_false, if_true, if_false]
          simp only [Act.put, List.setIfInBounds_toArray, List.set_cons_zero, List.set_cons_succ]
          go_wp2
          refine ⟨⟨rfl, rfl, World.grownBy.refl _ _, trivial⟩, ?_⟩
          unfold JPp
          rw [updL_ne (by decide), updL_same, upd_ne (by decide), upd_same]
          exact ⟨fun e => (by rw [h16] at e; cases e), fun _ => hj.2.1 h16, fun _ => rfl⟩
      · intro L V w7 hL hb7 hs hj
        have e17 := hj.2.2 (hL 17 (by decide))
        have ho7 := hj.2.1 (hL 16 (by decide))
        rw [← e17] at ho7
        clear hj hL hs e17
        have hB7 := HRB.out _ hb7
        simp only [fill]
        try simp only [Exit.then]
        try go_simp
        generalize V 17 = v17 at *
        generalize V 16 = v16 at *
        generalize V 15 = v15 at *
        go_wp2
        go_roundw
        case rel => exact ⟨t + 1, by omega, by go_num, ho7⟩
        case measure => simp [intOf]; omega
    · obtain rfl : t = m := by omega
      have d3 : decide ((t : Int) < t) = false := decide_eq_false (by omega)
      rw [HFT.out] at ho6
      have hB8 : Below B w wr.drew := below_drewN hBr 1
      have ho8 := own_drew ho6
      have hm8 := hmr.drew
      have hoo8 := own_ext ho (hB8.mono hB2)
      generalize u6 = v6 at *
      go_wp2
      go_still_tail 15, (by kernel_rfl)
      refine wpList_store_cell rfl _ (.tmp 55) (.tmp 53) rfl (i := 0) (v := .slice A k c) hm8 Nat.zero_lt_one HS.out rfl rfl rfl ?_
      intro w5 hm5 hg5
      have hK : Kept base g w w5 := (Kept.of_below ((hB8.mono hB2).mono hbs)).trans (Kept.put hg5 (by have := hB8.size; omega))
      have hm5' : Blk w5 g 63 #[.slice A k c] := hm5
      have hoo5 := HOH.out _ (own_kept hoo8 hg5 hg)
      have ho5 := own_kept ho8 hg5 hgB
      have hY : Way2 g none w w5 := (Way2.of_below (hB8.mono hB2)).trans (Way2.of_put hg5)
      go_wp2
      go_ret2
      obtain ⟨A', c', rfl⟩ := own_isSlice ho5
      obtain rfl : B = w.heap.size := by omega
      exact ⟨A', c', rfl, ho5, ⟨A, c, by rw [HTL.out]; exact HRO0.out, by rw [HTL.out]; exact hm5', by rw [HTL.out]; exact hoo5⟩, hK, hY⟩
end Go.Mun.RS
