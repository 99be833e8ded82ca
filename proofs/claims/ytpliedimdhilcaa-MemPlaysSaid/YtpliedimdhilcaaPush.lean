/- 'Push': one word more on a stack. -/
import Derived.Test.YtpliedimdhilcaaStack
import Derived.Test.YtpliedimdhilcaaPhase
import Derived.Test.YtpliedimdhilcaaRowOne
import Derived.Deep.Cut
namespace Go.Mun
open Go Go.RowKit Go.Proofs

theorem wrow_oneCell (l : List Nat) : ∀ u ∈ wrow l, u.oneCell' = true := by
  intro u hu
  obtain ⟨x, _, hx⟩ := List.mem_flatMap.1 hu
  exact oneAll_mem (wcells_one x) u hx

/-- what each operation of the region that appends writes -/
def SPush (g : Nat) (r : Option Nat) (A : Option Addr) (n c x : Nat) : Nat → Value → World → Prop
  | 0, v, _ => v = .pointer (some ⟨g, 0, none⟩)
  | 1, v, _ => v = .pointer (some ⟨g, 0, none⟩)
  | 2, v, _ => v = .pointer (some ⟨g, 0, none⟩)
  | 3, v, _ => v = .pointer (some ⟨g, 0, none⟩)
  | 4, v, _ => v = .slice A n c
  | 5, v, _ => v = .agg (wcells x)
  | 6, v, w => ∃ b, v = .slice (some ⟨b, 0, none⟩) 1 1 ∧ b ≠ g ∧ some b ≠ r ∧ Blk w b 25 (wcells x)
  | 7, v, _ => v.oneCell' = true
  | 8, v, _ => v = .pointer (some ⟨g, 0, none⟩)
  | 9, v, _ => v = .pointer (some ⟨g, 0, none⟩)
  | _, _, _ => True
theorem SPush_stays (g : Nat) (r : Option Nat) (A : Option Addr) (n c x : Nat) : ∀ i v (wa wb : World), Way2 g r wa wb → SPush g r A n c x i v wa → SPush g r A n c x i v wb
  | 0, _, _, _, _, h => h
  | 1, _, _, _, _, h => h
  | 2, _, _, _, _, h => h
  | 3, _, _, _, _, h => h
  | 4, _, _, _, _, h => h
  | 5, _, _, _, _, h => h
  | 6, _, _, _, hb, ⟨b, h1, h2, h3, h4⟩ => ⟨b, h1, h2, h3, (hb.block b h4.lt h2 h3).trans h4⟩
  | 7, _, _, _, _, h => h
  | 8, _, _, _, _, h => h
  | 9, _, _, _, _, h => h
  | _ + 10, _, _, _, _, h => h
/-- how far the region has come -/
def JPush (base g : Nat) (r : Option Nat) (q : Nat) (A : Option Addr) (n c : Nat) (l l' : List Nat) (L : Nat → Bool) (V : Nat → Value) (w : World) : Prop :=
  (L 10 = true → L 4 = true ∧ L 7 = true) ∧
  (L 7 = false → w.ownsRow base 25 32 (.slice A n c) n (wrow l)) ∧ (L 7 = true → w.ownsRow base 25 32 (V 7) (n + 1) (wrow l')) ∧
  (L 10 = false → Blk w g 43 #[.slice A n c]) ∧ (L 10 = true → Blk w g 43 #[V 7]) ∧
  (L 7 = true → (V 7).ownBlock = r ∨ ∃ b, (V 7).ownBlock = some b ∧ q ≤ b)
theorem JPush_far {base g : Nat} {r : Option Nat} {q : Nat} {A : Option Addr} {n c : Nat} {l l' : List Nat} {L : Nat → Bool} {V : Nat → Value} {w : World} (h : JPush base g r q A n c l l' L V w) {k : Nat} {v : Value} (h7 : (7 : Nat) ≠ k) (h10 : (10 : Nat) ≠ k) : JPush base g r q A n c l l' (updL L k) (upd V k v) w := by
  unfold JPush at h ⊢
  rw [updL_ne h7, updL_ne h10, upd_ne h7]
  exact ⟨fun e => ⟨updL_up (h.1 e).1, (h.1 e).2⟩, h.2⟩

set_option maxRecDepth 100000 in
set_option maxHeartbeats 1000000 in
theorem Push_go (x : Nat) (w : World) (g base n c : Nat) (A : Option Addr) (l : List Nat) (hm : Blk w g 43 #[.slice A n c]) (ho : w.ownsRow base 25 32 (.slice A n c) n (wrow l))
    (hg : g < base) (hbs : base ≤ w.heap.size) (hn : n < 1024) :
    Calls Try.prog 20 #[.pointer (some ⟨g, 0, none⟩), .agg (wcells x)] w fun e w' =>
      e = .returned (.bool true) ∧ ∃ A' c', Blk w' g 43 #[.slice A' (n + 1) c'] ∧ w'.ownsRow base 25 32 (.slice A' (n + 1) c') (n + 1) (wrow (l ++ [x])) ∧ Kept base g w w' ∧ Way2 g (Value.ownBlock (.slice A n c)) w w' ∧
        (Value.ownBlock (.slice A' (n + 1) c') = Value.ownBlock (.slice A n c) ∨ ∃ b, Value.ownBlock (.slice A' (n + 1) c') = some b ∧ w.heap.size ≤ b) := by
  have hT := wordsTy
  have HSW := Lib.hid wcells_size
  have hW := wordTy
  have HS := Lib.hid (show (Try.prog.info? 41).map (·.size) = some 1 by kernel_rfl)
  have d1 : decide ((1024 : Int) ≤ n) = false := decide_eq_false (by omega)
  have hc0 := hm.cellv (i := 0) rfl
  go_enter Try.func20, Try.ntmps20
  go_upto_region 3 with (first
    | ((with_reducible refine gd_box ?_); refine wpList_box_agg rfl _ (.tmp 1) rfl rfl ?_; intro w1 hx1 hb1 hl1; have hz1 := hx1.lt; have hs1 := hb1.size; have hm1 := hm.ext hb1; have ho1 := own_ext ho hb1; have hc1 := hm1.cellv (i := 0) rfl)
    | fail)
  obtain ⟨r, hrb, hrg, hre, hrq, hrw⟩ : ∃ r, (∀ b, some b = r → base ≤ b ∧ b < w.heap.size) ∧ (∀ x y : World, x.grownBy y (Value.ownBlock (.slice A n c)) → x.grownBy y r) ∧
      (∀ v : Value, v.ownBlock = Value.ownBlock (.slice A n c) → v.ownBlock = r) ∧ (∀ v : Value, v.ownBlock = r → v.ownBlock = Value.ownBlock (.slice A n c)) ∧ (∀ x y : World, Way2 g r x y → Way2 g (Value.ownBlock (.slice A n c)) x y) :=
    ⟨Value.ownBlock (.slice A n c), fun b e => ho.lt b e.symm, fun _ _ h => h, fun _ h => h, fun _ h => h, fun _ _ h => h⟩
  have HRQ := Lib.hid hrq
  have HRE := Lib.hid hre
  clear hrq hre
  refine wp_region_phase (by kernel_rfl) (by kernel_rfl) (by kernel_rfl) (Way2 g r) Way2.refl (fun _ _ _ h k => h.trans k) (SPush g r A n c x) (SPush_stays _ _ _ _ _ _) (JPush base g r w.heap.size A n c l (l ++ [x]))
    ⟨fun h => (by cases h), fun _ => own_drew ho1, fun h => (by cases h), fun _ => hm1.drew, fun h => (by cases h), fun h => (by cases h)⟩ ?_ ?_
  · simp only [PhStep]
    refine ⟨?_, ?_, ?_, ?_, ?_, ?_, ?_, ?_, ?_, ?_, ?_, trivial⟩
    · intro L V w' hb hj hl hdo hcl hd
      clear hdo hcl hd
      refine ⟨?_⟩
      simp only [fill]
      go_wp2
      exact ⟨⟨rfl, rfl, Way2.refl _, rfl⟩, JPush_far hj (by decide) (by decide)⟩
    · intro L V w' hb hj hl hdo hcl hd
      clear hdo hcl hd
      refine ⟨?_⟩
      simp only [fill]
      go_wp2
      exact ⟨⟨rfl, rfl, Way2.refl _, rfl⟩, JPush_far hj (by decide) (by decide)⟩
    · intro L V w' hb hj hl hdo hcl hd
      clear hdo
      simp only [DepFacts, SPush, Region.binds, forall_const, and_true] at hd
      refine ⟨?_⟩
      simp only [fill, hd]
      clear hd
      go_wp2
      exact ⟨⟨rfl, rfl, Way2.refl _, rfl⟩, JPush_far hj (by decide) (by decide)⟩
    · intro L V w' hb hj hl hdo hcl hd
      clear hdo
      simp only [DepFacts, SPush, Region.binds, forall_const, and_true] at hd
      refine ⟨?_⟩
      simp only [fill, hd]
      clear hd
      go_wp2
      exact ⟨⟨rfl, rfl, Way2.refl _, rfl⟩, JPush_far hj (by decide) (by decide)⟩
    · intro L V w' hb hj hl hdo hcl hd
      clear hdo
      simp only [DepFacts, SPush, Region.binds, forall_const, and_true] at hd
      have hc' := (hj.2.2.2.1 (Bool.eq_false_iff.2 fun e => by rw [(hj.1 e).1] at hl; cases hl)).cellv (i := 0) rfl
      refine ⟨?_⟩
      simp only [fill, hd]
      clear hd
      go_wp2
      exact ⟨⟨rfl, rfl, Way2.refl _, rfl⟩, JPush_far hj (by decide) (by decide)⟩
    · intro L V w' hb hj hl hdo hcl hd
      clear hdo hcl hd
      have hxw : Blk w' w.heap.size 25 (wcells x) := (hb.block _ hx1.lt (by omega) (fun e => by have := hrb _ e; omega)).trans hx1
      refine ⟨?_⟩
      simp only [fill]
      simp only [Act.put, List.setIfInBounds_toArray, List.set_cons_zero, List.set_cons_succ]
      go_wp2_with (first | ((with_reducible refine gd_load ?_); refine wpList_load_blk rfl 25 (.tmp 3) rfl hxw (by rw [HSW.out]; exact hW) rfl ?_) | fail)
      exact ⟨⟨rfl, rfl, Way2.refl _, rfl⟩, JPush_far hj (by decide) (by decide)⟩
    · intro L V w' hb hj hl hdo hcl hd
      clear hdo
      simp only [DepFacts, SPush, Region.binds, forall_const, and_true] at hd
      have hz' : w1.heap.size ≤ w'.heap.size := hb.size
      refine ⟨?_⟩
      simp only [fill, hd]
      clear hd
      simp only [Act.put, List.setIfInBounds_toArray, List.set_cons_zero, List.set_cons_succ]
      go_wp2_with (first | (refine wpList_row_one rfl (.tmp 16) rfl hT (by decide) rfl (HSW.out _) ?_; intro w6 hx6 hb6 hl6) | fail)
      refine ⟨⟨rfl, rfl, Way2.of_below hb6, _, rfl, by omega, fun e => by have := hrb _ e; omega, hx6⟩, ?_⟩
      refine JPush_far ?_ (by decide) (by decide)
      exact ⟨hj.1, fun e => own_ext (hj.2.1 e) hb6, fun e => own_ext (hj.2.2.1 e) hb6, fun e => (hj.2.2.2.1 e).ext hb6, fun e => (hj.2.2.2.2.1 e).ext hb6, hj.2.2.2.2.2⟩
    · intro L V w' hb hj hl hdo hcl hd
      clear hdo
      simp only [DepFacts, SPush, Region.binds, forall_const, and_true] at hd
      obtain ⟨h4, b, h6, hbg, hbr, hx6⟩ := hd
      have hz' : w1.heap.size ≤ w'.heap.size := hb.size
      have hL10 : L 10 = false := Bool.eq_false_iff.2 fun e => by rw [(hj.1 e).2] at hl; cases hl
      have hoo := hj.2.1 hl
      have hmm := hj.2.2.2.1 hL10
      refine ⟨?_⟩
      simp only [fill, h4, h6]
      clear h4 h6
      simp only [Act.put, List.setIfInBounds_toArray, List.set_cons_zero, List.set_cons_succ]
      go_wp2_with (first
        | (at_builtin; refine wpList_append_rd _ rfl (.tmp 15) (.tmp 17) _ rfl base _ _ 32 32 hT (.slice A n c) n (wrow l) rfl hoo (some ⟨b, 0, none⟩) 1 1 (wrow [x]) rfl (wrow_length _) (by rw [wrow_one]; exact hx6.rd) (wrow_oneCell _) (by unfold maxLen; omega) (by omega) (by omega) ?_; intro v7 w7 ho7 hg7 hat7; rw [← wrow_append] at ho7)
        | fail)
      have hn7 : some g ≠ Value.ownBlock (.slice A n c) := own_far hmm.lt hoo hg
      refine ⟨⟨rfl, rfl, Way2.of_grown (hrg _ _ hg7), own_one ho7⟩, ?_⟩
      unfold JPush
      rw [updL_same, updL_ne (by decide), updL_ne (by decide), upd_same, hL10]
      refine ⟨fun e => (by cases e), fun e => (by cases e), fun _ => ho7, fun _ => hmm.grown hg7 hn7, fun e => (by cases e), fun _ => ?_⟩
      rcases hat7 with e | e
      · exact .inl (HRE.out _ e)
      · exact .inr ⟨_, e, Nat.le_trans hs1 hz'⟩
    · intro L V w' hb hj hl hdo hcl hd
      clear hdo
      simp only [DepFacts, SPush, Region.binds, forall_const, and_true] at hd
      refine ⟨?_⟩
      simp only [fill, hd]
      clear hd
      go_wp2
      exact ⟨⟨rfl, rfl, Way2.refl _, rfl⟩, JPush_far hj (by decide) (by decide)⟩
    · intro L V w' hb hj hl hdo hcl hd
      clear hdo
      simp only [DepFacts, SPush, Region.binds, forall_const, and_true] at hd
      refine ⟨?_⟩
      simp only [fill, hd]
      clear hd
      go_wp2
      exact ⟨⟨rfl, rfl, Way2.refl _, rfl⟩, JPush_far hj (by decide) (by decide)⟩
    · intro L V w' hb hj hl hdo hcl hd
      simp only [DepFacts, SPush, Region.binds, forall_const, and_true] at hd
      have h7 : L 7 = true := hdo 7 (by kernel_rfl)
      have h4 : L 4 = true := hdo 4 (by kernel_rfl)
      have hmm := hj.2.2.2.1 hl
      have hoo := hj.2.2.1 h7
      have h9 := hd.1
      have h1c := own_one hoo
      clear hd hdo hcl
      refine ⟨?_⟩
      simp only [fill, h9]
      simp only [Act.put, List.setIfInBounds_toArray, List.set_cons_zero, List.set_cons_succ]
      go_wp2_with (first
        | ((with_reducible refine gd_store ?_); refine wpList_store_cell rfl _ (.tmp 20) (.tmp 18) rfl (i := 0) hmm Nat.zero_lt_one HS.out h1c rfl rfl ?_; intro w10 hm10 hg10)
        | fail)
      refine ⟨⟨rfl, rfl, Way2.of_put hg10, trivial⟩, ?_⟩
      unfold JPush
      rw [updL_same, updL_ne (by decide), updL_ne (by decide), upd_ne (by decide), h4, h7]
      exact ⟨fun _ => ⟨rfl, rfl⟩, fun e => (by cases e), fun _ => own_kept hoo hg10 hg, fun e => (by cases e), fun _ => hm10, fun _ => hj.2.2.2.2.2 h7⟩
  · intro L V w' hL hb hs hj
    have h7 := hL 7 (by decide)
    have h10 := hL 10 (by decide)
    have hoo := hj.2.2.1 h7
    have hmm := hj.2.2.2.2.1 h10
    have hat := hj.2.2.2.2.2 h7
    generalize V 7 = v7 at hoo hmm hat
    obtain ⟨A', c', rfl⟩ := own_isSlice hoo
    clear hs hj hL h7 h10
    simp only [fill]
    simp only [Exit.then]
    go_simp
    go_wp2
    go_ret
    refine ⟨rfl, A', c', hmm, hoo, ?_⟩
    have hsd : w1.drew.heap.size = w1.heap.size := rfl
    refine ⟨?_, hrw _ _ ⟨hb.os.trans hb1.os, hb.tape.trans hb1.tape, hb.output.trans hb1.output, Nat.le_trans hb1.size hb.size, fun k hk h1 h2 => (hb.block k (by omega) h1 h2).trans (hb1.block k hk)⟩, hat.imp (HRQ.out _) (fun h => h)⟩
    exact ⟨hb.os.trans hb1.os, hb.tape.trans hb1.tape, hb.output.trans hb1.output, Nat.le_trans hb1.size hb.size, fun k hk hne => (hb.block k (by omega) hne (fun e => by have := hrb _ e; omega)).trans (hb1.block k (by omega))⟩

theorem Push_full (x : Nat) (w : World) (g n c : Nat) (A : Option Addr) (hm : Blk w g 43 #[.slice A n c]) (hn : 1024 ≤ n) :
    Calls Try.prog 20 #[.pointer (some ⟨g, 0, none⟩), .agg (wcells x)] w fun e w' => e = .returned (.bool false) ∧ Below w.heap.size w w' := by
  have d1 : decide ((1024 : Int) ≤ n) = true := decide_eq_true (by omega)
  go_enter Try.func20, Try.ntmps20
  go_wp2_with (first
    | ((with_reducible refine gd_box ?_); refine wpList_box_agg rfl _ (.tmp 1) rfl rfl ?_; intro w1 hx1 hb1 hl1; have hm1 := hm.ext hb1; have hc1 := hm1.cellv (i := 0) rfl)
    | fail)
  go_ret
  exact ⟨rfl, hb1⟩

/-- a stack of these words, in block g, its row among the call's own blocks -/
def St (w : World) (g base : Nat) (l : List Nat) : Prop := ∃ A c, Blk w g 43 #[.slice A l.length c] ∧ w.ownsRow base 25 32 (.slice A l.length c) l.length (wrow l)
theorem St.ext {w w' : World} {g base : Nat} {l : List Nat} (h : St w g base l) (hb : Below w.heap.size w w') : St w' g base l := by
  obtain ⟨A, c, h1, h2⟩ := h
  exact ⟨A, c, h1.ext hb, own_ext h2 hb⟩
theorem St.drew {w : World} {g base : Nat} {l : List Nat} (h : St w g base l) : St w.drew g base l := by
  obtain ⟨A, c, h1, h2⟩ := h
  exact ⟨A, c, h1.drew, own_drew h2⟩
theorem St.new {w : World} {g base : Nat} (h : Blk w g 43 #[.slice none 0 0]) : St w g base [] := ⟨none, 0, h, World.ownsRow_nil _ _ _ _⟩
def pushed (l : List Nat) (x : Nat) : List Nat := if l.length < 1024 then l ++ [x] else l
/-- the same, and which block its row is -/
def StR (w : World) (g base : Nat) (l : List Nat) (r : Option Nat) : Prop := ∃ A c, Value.ownBlock (.slice A l.length c) = r ∧ Blk w g 43 #[.slice A l.length c] ∧ w.ownsRow base 25 32 (.slice A l.length c) l.length (wrow l)
theorem StR.st {w : World} {g base : Nat} {l : List Nat} {r : Option Nat} (h : StR w g base l r) : St w g base l := by
  obtain ⟨A, c, _, h1, h2⟩ := h
  exact ⟨A, c, h1, h2⟩
theorem St.r {w : World} {g base : Nat} {l : List Nat} (h : St w g base l) : ∃ r, StR w g base l r := by
  obtain ⟨A, c, h1, h2⟩ := h
  exact ⟨_, A, c, rfl, h1, h2⟩
theorem StR.ext {w w' : World} {g base : Nat} {l : List Nat} {r : Option Nat} (h : StR w g base l r) (hb : Below w.heap.size w w') : StR w' g base l r := by
  obtain ⟨A, c, h0, h1, h2⟩ := h
  exact ⟨A, c, h0, h1.ext hb, own_ext h2 hb⟩
/-- the row is where it was, or new -/
def Moved (w : World) (r r' : Option Nat) : Prop := r' = r ∨ ∃ b, r' = some b ∧ w.heap.size ≤ b
theorem Push_all (x : Nat) (w : World) (g base : Nat) (l : List Nat) (r : Option Nat) (h : StR w g base l r) (hg : g < base) (hbs : base ≤ w.heap.size) :
    Calls Try.prog 20 #[.pointer (some ⟨g, 0, none⟩), .agg (wcells x)] w fun e w' =>
      e = .returned (.bool (decide (l.length < 1024))) ∧ ∃ r', StR w' g base (pushed l x) r' ∧ Kept base g w w' ∧ Way2 g r w w' ∧ Moved w r r' := by
  obtain ⟨A, c, rfl, h1, h2⟩ := h
  by_cases hn : l.length < 1024
  · refine (Push_go x w g base _ c A l h1 h2 hg hbs hn).mono ?_
    rintro e w' ⟨rfl, A', c', k1, k2, k3, k4, k5⟩
    have hp : pushed l x = l ++ [x] := if_pos hn
    have hl : (l ++ [x]).length = l.length + 1 := by simp
    rw [hp, decide_eq_true hn]
    exact ⟨rfl, _, ⟨A', c', rfl, by rw [hl]; exact k1, by rw [hl]; exact k2⟩, k3, k4, by rw [hl]; exact k5⟩
  · refine (Push_full x w g _ c A h1 (by omega)).mono ?_
    rintro e w' ⟨rfl, hb⟩
    have hp : pushed l x = l := if_neg hn
    rw [hp, decide_eq_false hn]
    exact ⟨rfl, _, ⟨A, c, rfl, h1.ext hb, own_ext h2 hb⟩, Kept.of_below (hb.mono hbs), Way2.of_below hb, .inl rfl⟩
theorem Push_any (x : Nat) (w : World) (g base : Nat) (l : List Nat) (h : St w g base l) (hg : g < base) (hbs : base ≤ w.heap.size) :
    Calls Try.prog 20 #[.pointer (some ⟨g, 0, none⟩), .agg (wcells x)] w fun e w' =>
      e = .returned (.bool (decide (l.length < 1024))) ∧ St w' g base (pushed l x) ∧ Kept base g w w' := by
  obtain ⟨r, hr⟩ := h.r
  refine (Push_all x w g base l r hr hg hbs).mono ?_
  rintro e w' ⟨rfl, r', h1, h2, _, _⟩
  exact ⟨rfl, h1.st, h2⟩
end Go.Mun
