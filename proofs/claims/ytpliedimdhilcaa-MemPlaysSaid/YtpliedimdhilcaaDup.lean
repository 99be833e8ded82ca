/- 'Dup': a stack's n-th last word once more. -/
import Derived.Test.YtpliedimdhilcaaPush
import Derived.Test.YtpliedimdhilcaaMemCopy
import Derived.Deep.MidRow
namespace Go.Mun
open Go Go.RowKit Go.Proofs

theorem wrow_get (l : List Nat) : ∀ {k j : Nat} {x : Nat}, l[k]? = some x → j < 32 → (wrow l)[k * 32 + j]? = (wcells x)[j]? := by
  induction l with
  | nil => intro k j x h; simp at h
  | cons y l ih =>
    intro k j x h hj
    have e : wrow (y :: l) = (wcells y).toList ++ wrow l := rfl
    have hs : (wcells y).toList.length = 32 := by rw [Array.length_toList, wcells_size]
    rw [e]
    cases k with
    | zero =>
      simp only [List.getElem?_cons_zero, Option.some.injEq] at h
      subst h
      rw [List.getElem?_append_left (by rw [hs]; omega)]
      simp
    | succ k =>
      rw [List.getElem?_append_right (by rw [hs]; omega), hs, show (k + 1) * 32 + j - 32 = k * 32 + j from by omega]
      exact ih (by simpa using h) hj
/-- one word of a row of words -/
theorem row_word {w : World} {base h n c : Nat} {e : TypeId} {l : List Nat} (ho : w.ownsRow base e 32 (.slice (some ⟨h, 0, none⟩) n c) n (wrow l)) {k x : Nat} (hx : l[k]? = some x) : w.rangeAt h (k * 32) (wcells x).toList := by
  intro j v hv
  have hv' : (wcells x)[j]? = some v := by simpa using hv
  have hj : j < 32 := by
    have := (Array.getElem?_eq_some_iff.1 hv').1
    rwa [wcells_size] at this
  have := ho.cells (g := h) rfl (k * 32 + j) v ((wrow_get l hx hj).trans hv')
  rwa [Addr.add_mid, Nat.zero_add] at this

/-- 'Push' on a stack whose row's block is known -/
theorem Push_way (x : Nat) (w : World) (g base n c h : Nat) (l : List Nat) (hn : n = l.length) (hm : Blk w g 43 #[.slice (some ⟨h, 0, none⟩) n c]) (ho : w.ownsRow base 25 32 (.slice (some ⟨h, 0, none⟩) n c) n (wrow l))
    (hg : g < base) (hbs : base ≤ w.heap.size) :
    Calls Try.prog 20 #[.pointer (some ⟨g, 0, none⟩), .agg (wcells x)] w fun e w' =>
      e = .returned (.bool (decide (l.length < 1024))) ∧ ∃ r', StR w' g base (pushed l x) r' ∧ Kept base g w w' ∧ Way2 g (some h) w w' ∧ Moved w (some h) r' := by
  subst hn
  exact Push_all x w g base l (some h) ⟨_, _, rfl, hm, ho⟩ hg hbs
/-- what is kept, twice said -/
def Rel2 (base g : Nat) (r : Option Nat) (w w' : World) : Prop := Kept base g w w' ∧ Way2 g r w w'
theorem Rel2.refl {base g : Nat} {r : Option Nat} (w : World) : Rel2 base g r w w := ⟨Kept.of_below (Below.refl _ _), Way2.refl _⟩
theorem Rel2.trans {base g : Nat} {r : Option Nat} {x y z : World} (h : Rel2 base g r x y) (k : Rel2 base g r y z) : Rel2 base g r x z := ⟨h.1.trans k.1, h.2.trans k.2⟩

/-- what each operation of the region writes -/
def SDup (g h n c d k x : Nat) (b : Bool) : Nat → Value → World → Prop
  | 0, v, _ => v = .pointer (some ⟨g, 0, none⟩)
  | 1, v, _ => v = .pointer (some ⟨g, 0, none⟩)
  | 2, v, _ => v = .pointer (some ⟨g, 0, none⟩)
  | 3, v, _ => v = .pointer (some ⟨g, 0, none⟩)
  | 4, v, _ => v = .slice (some ⟨h, 0, none⟩) n c
  | 5, v, _ => v = .pointer (some ⟨g, 0, none⟩)
  | 6, v, _ => v = .pointer (some ⟨g, 0, none⟩)
  | 7, v, _ => v = .pointer (some ⟨g, 0, none⟩)
  | 8, v, _ => v = .slice (some ⟨h, 0, none⟩) n c
  | 9, v, _ => v = .int .i64 n
  | 10, v, _ => v = .int .i64 d
  | 11, v, _ => v = .int .i64 k
  | 12, v, _ => v = .pointer (some ⟨h, k * 32, none⟩)
  | 13, v, _ => v = .agg (wcells x)
  | 14, v, _ => v = .bool b
  | _, v, _ => v = .bool b
theorem SDup_stays (base g h n c d k x : Nat) (b : Bool) : ∀ i v (wa wb : World), Rel2 base g (some h) wa wb → SDup g h n c d k x b i v wa → SDup g h n c d k x b i v wb
  | 0, _, _, _, _, h => h
  | 1, _, _, _, _, h => h
  | 2, _, _, _, _, h => h
  | 3, _, _, _, _, h => h
  | 4, _, _, _, _, h => h
  | 5, _, _, _, _, h => h
  | 6, _, _, _, _, h => h
  | 7, _, _, _, _, h => h
  | 8, _, _, _, _, h => h
  | 9, _, _, _, _, h => h
  | 10, _, _, _, _, h => h
  | 11, _, _, _, _, h => h
  | 12, _, _, _, _, h => h
  | 13, _, _, _, _, h => h
  | 14, _, _, _, _, h => h
  | _ + 15, _, _, _, _, h => h
/-- how far the region has come -/
def JDup (g base h n c x q : Nat) (l : List Nat) (L : Nat → Bool) (_ : Nat → Value) (w : World) : Prop :=
  (L 14 = false → Blk w g 43 #[.slice (some ⟨h, 0, none⟩) n c] ∧ w.ownsRow base 25 32 (.slice (some ⟨h, 0, none⟩) n c) n (wrow l)) ∧ (L 14 = true → ∃ r', StR w g base (pushed l x) r' ∧ (r' = some h ∨ ∃ b, r' = some b ∧ q ≤ b))
theorem JDup_far (g base h n c x q : Nat) (l : List Nat) {L : Nat → Bool} {V : Nat → Value} {w : World} (hJ : JDup g base h n c x q l L V w) {k : Nat} {v : Value} (h14 : (14 : Nat) ≠ k) : JDup g base h n c x q l (updL L k) (upd V k v) w := by
  unfold JDup at hJ ⊢
  simp only [updL_ne h14]
  exact hJ

theorem Dup_no (i : Int) (w : World) (g n c : Nat) (A : Option Addr) (_h1 : -9223372036854775808 ≤ i) (_h2 : i ≤ 9223372036854775807) (hm : Blk w g 43 #[.slice A n c]) (h : i < 1 ∨ (n : Int) < i) :
    Calls Try.prog 21 #[.pointer (some ⟨g, 0, none⟩), .int .i64 i] w fun e w' => e = .returned (.bool false) ∧ w = w' := by
  have hc := hm.cellv (i := 0) rfl
  by_cases h1 : i < 1
  · have d1 : decide (i < 1) = true := decide_eq_true h1
    clear h
    go_enter Try.func21, Try.ntmps21
    go_wp2
    go_ret
    exact ⟨rfl, rfl⟩
  · have d1 : decide (i < 1) = false := decide_eq_false h1
    have d2 : decide ((n : Int) < i) = true := decide_eq_true (by omega)
    clear h
    go_enter Try.func21, Try.ntmps21
    go_wp2
    go_ret
    exact ⟨rfl, rfl⟩

set_option maxRecDepth 100000 in
set_option maxHeartbeats 1000000 in
theorem Dup_all (d k x : Nat) (w : World) (g base : Nat) (l : List Nat) (r : Option Nat) (h : StR w g base l r) (hg : g < base) (hbs : base ≤ w.heap.size) (hd1 : 1 ≤ d) (hk : k + d = l.length) (hl : l.length ≤ 100000) (hx : l[k]? = some x) :
    Calls Try.prog 21 #[.pointer (some ⟨g, 0, none⟩), .int .i64 (d : Nat)] w fun e w' =>
      e = .returned (.bool (decide (l.length < 1024))) ∧ ∃ r', StR w' g base (pushed l x) r' ∧ Kept base g w w' ∧ Way2 g r w w' ∧ Moved w r r' := by
  obtain ⟨A, c, hro, hm, ho⟩ := h
  obtain ⟨n, hn⟩ : ∃ n, n = l.length := ⟨_, rfl⟩
  obtain ⟨b, hb⟩ : ∃ b, b = decide (l.length < 1024) := ⟨_, rfl⟩
  have hbn := Lib.hid (show decide (l.length < 1024) = b from hb.symm)
  rw [← hb]
  rw [← hn] at hro hm ho hk hl
  have hln := hn
  clear hb hn
  obtain ⟨h, c', e, hh1, hh2⟩ := own_pos ho (by omega)
  injection e with e1 e2 e3
  subst e1 e3
  have hro' : some h = r := hro
  subst hro'
  clear hro
  have hu := Try.underlying25
  have hi : (Try.prog.info? 25).map (·.size) = some (wcells x).toList.length := by rw [Array.length_toList, wcells_size]; kernel_rfl
  have d1 : decide ((d : Int) < 1) = false := decide_eq_false (by omega)
  have d2 : decide ((n : Int) < d) = false := decide_eq_false (by omega)
  have hc := hm.cellv (i := 0) rfl
  have E1 : (n : Int) - d = k := by omega
  have b1 : (0 : Int) ≤ k := by omega
  have b2 : (k : Int) < n := by omega
  have HP := Lib.hid (fun w h1 h2 h3 => Push_way x w g base n c h l hln h1 h2 hg h3)
  clear hln
  go_enter Try.func21, Try.ntmps21
  go_upto_region 3 with (fail)
  refine wp_region_phase (by kernel_rfl) (by kernel_rfl) (by kernel_rfl) (Rel2 base g (some h)) Rel2.refl (fun _ _ _ h k => h.trans k) (SDup g h n c d k x b) (SDup_stays _ _ _ _ _ _ _ _ _) (JDup g base h n c x w.heap.size l)
    ⟨fun _ => ⟨hm.drew, own_drew ho⟩, fun h => (by cases h)⟩ ?_ ?_
  · simp only [PhStep]
    refine ⟨?_, ?_, ?_, ?_, ?_, ?_, ?_, ?_, ?_, ?_, ?_, ?_, ?_, ?_, ?_, ?_, trivial⟩
    · intro L V w' hb hj hl hdo hcl hd
      clear hdo hcl
      clear hd
      refine ⟨?_⟩
      simp only [fill]
      go_wp2
      exact ⟨⟨rfl, rfl, Rel2.refl _, rfl⟩, (JDup_far _ _ _ _ _ _ _ _ hj (by decide))⟩
    · intro L V w' hb hj hl hdo hcl hd
      clear hdo hcl
      clear hd
      refine ⟨?_⟩
      simp only [fill]
      go_wp2
      exact ⟨⟨rfl, rfl, Rel2.refl _, rfl⟩, (JDup_far _ _ _ _ _ _ _ _ hj (by decide))⟩
    · intro L V w' hb hj hl hdo hcl hd
      clear hdo hcl
      simp only [DepFacts, SDup, Region.binds, forall_const, and_true] at hd
      refine ⟨?_⟩
      simp only [fill, hd]
      clear hd
      go_wp2
      exact ⟨⟨rfl, rfl, Rel2.refl _, rfl⟩, (JDup_far _ _ _ _ _ _ _ _ hj (by decide))⟩
    · intro L V w' hb hj hl hdo hcl hd
      clear hdo hcl
      simp only [DepFacts, SDup, Region.binds, forall_const, and_true] at hd
      refine ⟨?_⟩
      simp only [fill, hd]
      clear hd
      go_wp2
      exact ⟨⟨rfl, rfl, Rel2.refl _, rfl⟩, (JDup_far _ _ _ _ _ _ _ _ hj (by decide))⟩
    · intro L V w' hb hj hl hdo hcl hd
      have hst := hj.1 (Bool.eq_false_iff.2 fun e => by have := hcl 12 4 (by kernel_rfl) (hcl 13 12 (by kernel_rfl) (hcl 14 13 (by kernel_rfl) (e))); rw [this] at hl; cases hl)
      have hc1 := hst.1.cellv (i := 0) rfl
      clear hdo hcl
      simp only [DepFacts, SDup, Region.binds, forall_const, and_true] at hd
      refine ⟨?_⟩
      simp only [fill, hd]
      clear hd
      go_wp2
      exact ⟨⟨rfl, rfl, Rel2.refl _, rfl⟩, JDup_far _ _ _ _ _ _ _ _ hj (by decide)⟩
    · intro L V w' hb hj hl hdo hcl hd
      clear hdo hcl
      clear hd
      refine ⟨?_⟩
      simp only [fill]
      go_wp2
      exact ⟨⟨rfl, rfl, Rel2.refl _, rfl⟩, (JDup_far _ _ _ _ _ _ _ _ hj (by decide))⟩
    · intro L V w' hb hj hl hdo hcl hd
      clear hdo hcl
      simp only [DepFacts, SDup, Region.binds, forall_const, and_true] at hd
      refine ⟨?_⟩
      simp only [fill, hd]
      clear hd
      go_wp2
      exact ⟨⟨rfl, rfl, Rel2.refl _, rfl⟩, (JDup_far _ _ _ _ _ _ _ _ hj (by decide))⟩
    · intro L V w' hb hj hl hdo hcl hd
      clear hdo hcl
      simp only [DepFacts, SDup, Region.binds, forall_const, and_true] at hd
      refine ⟨?_⟩
      simp only [fill, hd]
      clear hd
      go_wp2
      exact ⟨⟨rfl, rfl, Rel2.refl _, rfl⟩, (JDup_far _ _ _ _ _ _ _ _ hj (by decide))⟩
    · intro L V w' hb hj hl hdo hcl hd
      have hst := hj.1 (Bool.eq_false_iff.2 fun e => by have := hcl 9 8 (by kernel_rfl) (hcl 11 9 (by kernel_rfl) (hcl 12 11 (by kernel_rfl) (hcl 13 12 (by kernel_rfl) (hcl 14 13 (by kernel_rfl) (e))))); rw [this] at hl; cases hl)
      have hc1 := hst.1.cellv (i := 0) rfl
      clear hdo hcl
      simp only [DepFacts, SDup, Region.binds, forall_const, and_true] at hd
      refine ⟨?_⟩
      simp only [fill, hd]
      clear hd
      go_wp2
      exact ⟨⟨rfl, rfl, Rel2.refl _, rfl⟩, JDup_far _ _ _ _ _ _ _ _ hj (by decide)⟩
    · intro L V w' hb hj hl hdo hcl hd
      clear hdo hcl
      simp only [DepFacts, SDup, Region.binds, forall_const, and_true] at hd
      refine ⟨?_⟩
      simp only [fill, hd]
      clear hd
      go_wp2
      exact ⟨⟨rfl, rfl, Rel2.refl _, rfl⟩, (JDup_far _ _ _ _ _ _ _ _ hj (by decide))⟩
    · intro L V w' hb hj hl hdo hcl hd
      clear hdo hcl
      clear hd
      refine ⟨?_⟩
      simp only [fill]
      go_wp2
      exact ⟨⟨rfl, rfl, Rel2.refl _, rfl⟩, (JDup_far _ _ _ _ _ _ _ _ hj (by decide))⟩
    · intro L V w' hb hj hl hdo hcl hd
      clear hdo hcl
      simp only [DepFacts, SDup, Region.binds, forall_const, and_true] at hd
      refine ⟨?_⟩
      simp only [fill, hd]
      clear hd
      go_wp2
      exact ⟨⟨rfl, rfl, Rel2.refl _, rfl⟩, JDup_far _ _ _ _ _ _ _ _ hj (by decide)⟩
    · intro L V w' hb hj hl hdo hcl hd
      clear hdo hcl
      simp only [DepFacts, SDup, Region.binds, forall_const, and_true] at hd
      refine ⟨?_⟩
      simp only [fill, hd]
      clear hd
      go_wp2
      exact ⟨⟨rfl, rfl, Rel2.refl _, rfl⟩, JDup_far _ _ _ _ _ _ _ _ hj (by decide)⟩
    · intro L V w' hb hj hl hdo hcl hd
      have hst := hj.1 (Bool.eq_false_iff.2 fun e => by have := hcl 14 13 (by kernel_rfl) (e); rw [this] at hl; cases hl)
      have hc1 := hst.1.cellv (i := 0) rfl
      clear hdo hcl
      simp only [DepFacts, SDup, Region.binds, forall_const, and_true] at hd
      refine ⟨?_⟩
      simp only [fill, hd]
      clear hd
      simp only [Act.put, List.setIfInBounds_toArray, List.set_cons_zero, List.set_cons_succ]
      have hr1 := row_word hst.2 hx
      go_wp2_with (first | ((with_reducible refine gd_load ?_); refine wpList_load_mid rfl 25 (.tmp 28) rfl h (k * 32) rfl (wcells x).toList _ hr1 hu rfl hi ?_) | fail)
      exact ⟨⟨rfl, rfl, Rel2.refl _, rfl⟩, JDup_far _ _ _ _ _ _ _ _ hj (by decide)⟩
    · intro L V w' hb hj hl hdo hcl hd
      have hst := hj.1 hl
      have hbb : w.heap.size ≤ w'.heap.size := hb.1.size
      clear hdo hcl
      simp only [DepFacts, SDup, Region.binds, forall_const, and_true] at hd
      refine ⟨?_⟩
      simp only [fill, hd]
      clear hd
      go_wp2_with (first | (go_at_call 20; refine (HP.out _ hst.1 hst.2 (by exact Nat.le_trans hbs hbb)).mono ?_; rintro e w3 ⟨rfl, r3, hst3, hk3, hy3, hv3⟩) | fail)
      rw [hbn.out]
      refine ⟨⟨rfl, rfl, ⟨hk3, hy3⟩, rfl⟩, ?_⟩
      unfold JDup
      rw [updL_same]
      exact ⟨fun e => (by cases e), fun _ => ⟨r3, hst3, hv3.imp id fun ⟨b, h1, h2⟩ => ⟨b, h1, Nat.le_trans hbb h2⟩⟩⟩
    · intro L V w' hb hj hl hdo hcl hd
      clear hdo hcl
      simp only [DepFacts, SDup, Region.binds, forall_const, and_true] at hd
      refine ⟨?_⟩
      simp only [fill, hd]
      clear hd
      go_wp2
      exact ⟨⟨rfl, rfl, Rel2.refl _, rfl⟩, JDup_far _ _ _ _ _ _ _ _ hj (by decide)⟩
  · intro L V w' hL hb hs hj
    have h14 := hj.2 (hL 14 (by decide))
    clear hj hL
    simp only [SFacts, SDup, and_true] at hs
    simp only [fill, hs]
    simp only [Exit.then]
    clear hs
    go_simp
    go_wp2
    go_ret
    obtain ⟨r', h1, h2⟩ := h14
    exact ⟨rfl, r', h1, ⟨hb.1.os, hb.1.tape, hb.1.output, hb.1.size, hb.1.block⟩, ⟨hb.2.os, hb.2.tape, hb.2.output, hb.2.size, hb.2.block⟩, h2⟩
theorem Dup_go (d k x : Nat) (w : World) (g base : Nat) (l : List Nat) (h : St w g base l) (hg : g < base) (hbs : base ≤ w.heap.size) (hd1 : 1 ≤ d) (hk : k + d = l.length) (hl : l.length ≤ 100000) (hx : l[k]? = some x) :
    Calls Try.prog 21 #[.pointer (some ⟨g, 0, none⟩), .int .i64 (d : Nat)] w fun e w' =>
      e = .returned (.bool (decide (l.length < 1024))) ∧ St w' g base (pushed l x) ∧ Kept base g w w' := by
  obtain ⟨r, hr⟩ := h.r
  refine (Dup_all d k x w g base l r hr hg hbs hd1 hk hl hx).mono ?_
  rintro e w' ⟨rfl, r', h1, h2, _, _⟩
  exact ⟨rfl, h1.st, h2⟩
end Go.Mun
