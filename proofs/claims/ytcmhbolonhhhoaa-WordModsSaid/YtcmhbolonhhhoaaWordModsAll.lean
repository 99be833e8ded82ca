/- RelW, WordAll, RefMods, WordMods, Phase, RowOne, WordAddMod, WordAlive, WordCells, WordArg, in one text. -/
import Derived.Test.YtcmhbolonhhhoaaMade
import Derived.Test.YtcmhbolonhhhoaaDig
import Derived.Test.YtcmhbolonhhhoaaWordExp
import Derived.Test.YtcmhbolonhhhoaaWordFn
import Derived.Test.YtcmhbolonhhhoaaRefDiv
import Derived.Test.YtcmhbolonhhhoaaRefAdd
import Derived.Test.YtcmhbolonhhhoaaRefMul
import Derived.Test.YtcmhbolonhhhoaaWordMem
import Derived.Test.YtcmhbolonhhhoaaWordDivs
import Derived.Test.YtcmhbolonhhhoaaWordProd
import Derived.Deep.Cut
import Derived.Test.YtcmhbolonhhhoaaRegion
import Derived.Test.YtcmhbolonhhhoaaBlk
import Derived.Test.YtcmhbolonhhhoaaWordAdd
import Derived.ArgAppend
import Derived.Test.YtcmhbolonhhhoaaWordBase
import Derived.Test.YtcmhbolonhhhoaaLaw
namespace Go.Mun
open Go Go.RowKit Go.Proofs

theorem below_grown {w w' : World} (h : Below w.heap.size w w') (row : Option Nat) : w.grownBy w' row := ((World.grownBy.refl w row).trans (by
  refine ⟨h.os, h.tape, h.output, h.size, fun g hg _ => h.block g hg⟩))

/-- how the worlds on the way go on -/
structure RelW (wB : World) (row : Option Nat) (t : TypeId) (n : Nat) (r : Array Value) (x y : World) : Prop where
  gr : x.grownBy y row
  bel : Below wB.heap.size wB x → Below wB.heap.size wB y
  has : ∀ g, row = some g → (∃ cs : Array Value, cs.size = n ∧ Blk x g t cs) → ∃ cs : Array Value, cs.size = n ∧ Blk y g t cs
  put : ∀ g, row = some g → Blk x g t r → Blk y g t r
section
variable {wB : World} {row : Option Nat} {t : TypeId} {n : Nat} {r : Array Value} {x y z : World}
theorem relW_refl (x : World) : RelW wB row t n r x x := ⟨World.grownBy.refl x row, fun h => h, fun _ _ h => h, fun _ _ h => h⟩
theorem relW_trans (x y z : World) (h1 : RelW wB row t n r x y) (h2 : RelW wB row t n r y z) : RelW wB row t n r x z :=
  ⟨h1.gr.trans h2.gr, fun h => h2.bel (h1.bel h), fun g e h => h2.has g e (h1.has g e h), fun g e h => h2.put g e (h1.put g e h)⟩
theorem relW_below (h : Below x.heap.size x y) : RelW wB row t n r x y :=
  ⟨below_grown h row, fun hb => below_step hb h, fun _ _ ⟨cs, e, hc⟩ => ⟨cs, e, hc.ext h⟩, fun _ _ hc => hc.ext h⟩
theorem relW_store {g : Nat} (hn : r.size = n) (hb : Blk y g t r) (hg : x.grownBy y (some g)) (hB : wB.heap.size ≤ g) : RelW wB (some g) t n r x y :=
  ⟨hg, fun h => below_blk h h.size hg hB, fun _ e _ => by cases e; exact ⟨r, hn, hb⟩, fun _ e _ => by cases e; exact hb⟩
end
/-- what an operation leaves -/
inductive DK
  | val (v : Value)
  | dig (m N : Nat)
  | pair (m N n R : Nat)
  | put
  | any
def DK.is (base : Nat) (row : Option Nat) (t : TypeId) (r : Array Value) : DK → Value → World → Prop
  | .val x, v, _ => v = x
  | .dig m N, v, w => ∃ g c, v = .slice (some ⟨g, 0, none⟩) m c ∧ base ≤ g ∧ Rd w (some ⟨g, 0, none⟩) (dtab m N).toList
  | .pair m N n R, v, w => ∃ g h c d, v = .tuple #[.slice (some ⟨g, 0, none⟩) m c, .slice (some ⟨h, 0, none⟩) n d] ∧ base ≤ g ∧ base ≤ h ∧ Rd w (some ⟨g, 0, none⟩) (dtab m N).toList ∧ Rd w (some ⟨h, 0, none⟩) (dtab n R).toList
  | .put, _, w => ∀ g, row = some g → Blk w g t r
  | .any, _, _ => True
def DKs (K : List DK) (base : Nat) (row : Option Nat) (t : TypeId) (r : Array Value) (i : Nat) (v : Value) (w : World) : Prop := ((K[i]?).getD .any).is base row t r v w
theorem rd_row {w w' : World} {g : Nat} {l : List Value} {row : Option Nat} (h : Rd w (some ⟨g, 0, none⟩) l) (hg : w.grownBy w' row) (hne : row ≠ some g) : Rd w' (some ⟨g, 0, none⟩) l := h.grown hg fun a e => by
  injection e with e
  subst e
  exact fun e => hne e.symm
theorem DKs_stays {K : List DK} {base : Nat} {wB : World} {row : Option Nat} {t : TypeId} {n : Nat} {r : Array Value} (hrow : ∀ g, row = some g → g < base) (i : Nat) (v : Value) (x y : World) (h : RelW wB row t n r x y) (hs : DKs K base row t r i v x) : DKs K base row t r i v y := by
  have hne : ∀ g, base ≤ g → row ≠ some g := fun g hg e => by have := hrow g e; omega
  unfold DKs at *
  cases hk : (K[i]?).getD .any with
  | val u => rw [hk] at hs; exact hs
  | dig m N =>
    rw [hk] at hs
    obtain ⟨g, c, e, hg, hr⟩ := hs
    exact ⟨g, c, e, hg, rd_row hr h.gr (hne g hg)⟩
  | pair m N n R =>
    rw [hk] at hs
    obtain ⟨g, k, c, d, e, hg, hh, hr, hq⟩ := hs
    exact ⟨g, k, c, d, e, hg, hh, rd_row hr h.gr (hne g hg), rd_row hq h.gr (hne k hh)⟩
  | put => rw [hk] at hs; exact fun g e => h.put g e (hs g e)
  | any => trivial
theorem Blk.row {w w' : World} {g : Nat} {t : TypeId} {cs : Array Value} {row : Option Nat} (h : Blk w g t cs) (hg : w.grownBy w' row) (hne : some g ≠ row) : Blk w' g t cs := h.grown hg hne
end Go.Mun

namespace Go.Mun
open Go Go.RowKit Go.Proofs

def byteN (k a : Nat) : Nat := if k < 32 then lowB a (31 - k) else 0
def shrN (k a : Nat) : Nat := if k < 256 then a / 2 ^ k else 0
def modN (a b : Nat) : Nat := if b = 0 then 0 else a % b
def sdivN (a b : Nat) : Nat := if absN b = 0 then 0 else if (decide (2 ^ 255 ≤ a) != decide (2 ^ 255 ≤ b)) = true then negN (absN a / absN b % 2 ^ 256) else absN a / absN b % 2 ^ 256
def smodN (a b : Nat) : Nat := if absN b = 0 then 0 else if decide (2 ^ 255 ≤ a) = true then negN (absN a % absN b) else absN a % absN b
def scmpN (a b : Nat) : Int := if 2 ^ 255 ≤ a then (if 2 ^ 255 ≤ b then cmpN a b else -1) else (if 2 ^ 255 ≤ b then 1 else cmpN a b)

theorem byteN_lt (k a : Nat) : byteN k a < 2 ^ 256 := by
  unfold byteN
  split
  · exact Nat.lt_of_lt_of_le (lowB_lt _ _) (by decide)
  · decide
theorem shrN_lt {k a : Nat} (ha : a < 2 ^ 256) : shrN k a < 2 ^ 256 := by
  unfold shrN
  split
  · exact Nat.lt_of_le_of_lt (Nat.div_le_self _ _) ha
  · decide
theorem divN_lt {a : Nat} (b : Nat) (ha : a < 2 ^ 256) : a / b < 2 ^ 256 := Nat.lt_of_le_of_lt (Nat.div_le_self _ _) ha
theorem modN_lt {a : Nat} (b : Nat) (ha : a < 2 ^ 256) : modN a b < 2 ^ 256 := by
  unfold modN
  split
  · decide
  · exact Nat.lt_of_le_of_lt (Nat.mod_le _ _) ha
theorem negN_lt' (n : Nat) : negN n < 2 ^ 256 := Nat.mod_lt _ (by decide)
theorem absN_lt' {n : Nat} (h : n < 2 ^ 256) : absN n < 2 ^ 256 := by
  unfold absN
  split
  · exact negN_lt' _
  · exact h
theorem sdivN_lt (a b : Nat) : sdivN a b < 2 ^ 256 := by
  unfold sdivN
  split
  · decide
  · split
    · exact negN_lt' _
    · exact Nat.mod_lt _ (by decide)
theorem smodN_lt {a : Nat} (b : Nat) (ha : a < 2 ^ 256) : smodN a b < 2 ^ 256 := by
  unfold smodN
  split
  · decide
  · split
    · exact negN_lt' _
    · exact Nat.lt_of_le_of_lt (Nat.mod_le _ _) (absN_lt' ha)

section
variable (k a b : Nat) (w : World) (hk : k < 2 ^ 256) (ha : a < 2 ^ 256) (hb : b < 2 ^ 256)
theorem Byte_all (hk : k < 2 ^ 256) : Calls Try.prog 24 #[.agg (wcells k), .agg (wcells a)] w fun e w' => e = .returned (.agg (wcells (byteN k a))) ∧ Below w.heap.size w w' := by
  unfold byteN
  by_cases c : k < 32
  · rw [if_pos c]; exact Byte_in k a w c
  · rw [if_neg c]
    by_cases c2 : k < 2 ^ 63
    · exact Byte_mid k a w c c2
    · exact Byte_big k a w hk c2
theorem Shr_all (hk : k < 2 ^ 256) (ha : a < 2 ^ 256) : Calls Try.prog 21 #[.agg (wcells k), .agg (wcells a)] w fun e w' => e = .returned (.agg (wcells (shrN k a))) ∧ Below w.heap.size w w' := by
  unfold shrN
  by_cases c : k < 256
  · rw [if_pos c]; exact Shr_in k a w c ha
  · rw [if_neg c]
    by_cases c2 : k < 2 ^ 63
    · exact Shr_mid k a w c c2
    · exact Shr_big k a w hk c2
theorem Div_all (ha : a < 2 ^ 256) (hb : b < 2 ^ 256) : Calls Try.prog 40 #[.agg (wcells a), .agg (wcells b)] w fun e w' => e = .returned (.agg (wcells (a / b))) ∧ Below w.heap.size w w' := by
  by_cases c : b = 0
  · have := Div_zero a b w ha hb c
    rw [c] at this ⊢
    rw [Nat.div_zero]
    exact this
  · have := Div_pos a b w ha hb c
    rw [Nat.mod_eq_of_lt (divN_lt b ha)] at this
    exact this
theorem Mod_all (ha : a < 2 ^ 256) (hb : b < 2 ^ 256) : Calls Try.prog 41 #[.agg (wcells a), .agg (wcells b)] w fun e w' => e = .returned (.agg (wcells (modN a b))) ∧ Below w.heap.size w w' := by
  unfold modN
  by_cases c : b = 0
  · rw [if_pos c]; exact Mod_zero a b w ha hb c
  · rw [if_neg c]; exact Mod_pos a b w ha hb c
theorem SDiv_all (ha : a < 2 ^ 256) (hb : b < 2 ^ 256) : Calls Try.prog 42 #[.agg (wcells a), .agg (wcells b)] w fun e w' => e = .returned (.agg (wcells (sdivN a b))) ∧ Below w.heap.size w w' := by
  unfold sdivN
  by_cases c : absN b = 0
  · rw [if_pos c]; exact SDiv_zero a b w ha hb c
  · rw [if_neg c]; exact SDiv_pos a b w ha hb c
theorem SMod_all (ha : a < 2 ^ 256) (hb : b < 2 ^ 256) : Calls Try.prog 43 #[.agg (wcells a), .agg (wcells b)] w fun e w' => e = .returned (.agg (wcells (smodN a b))) ∧ Below w.heap.size w w' := by
  unfold smodN
  by_cases c : absN b = 0
  · rw [if_pos c]; exact SMod_zero a b w ha hb c
  · rw [if_neg c]; exact SMod_pos a b w ha hb c
theorem SCmp_all (ha : a < 2 ^ 256) (hb : b < 2 ^ 256) : Calls Try.prog 36 #[.agg (wcells a), .agg (wcells b)] w fun e w' => e = .returned (.int .i64 (scmpN a b)) ∧ Below w.heap.size w w' := by
  unfold scmpN
  by_cases c : 2 ^ 255 ≤ a <;> by_cases d : 2 ^ 255 ≤ b
  · rw [if_pos c, if_pos d]; exact SCmp_mm a b w ha hb c d
  · rw [if_pos c, if_neg d]; exact SCmp_mp a b w ha hb c d
  · rw [if_neg c, if_pos d]; exact SCmp_pm a b w ha hb c d
  · rw [if_neg c, if_neg d]; exact SCmp_pp a b w ha hb c d
end
end Go.Mun

namespace Go.Mun
open Go Go.RowKit Go.Proofs

theorem sum16 {a b k m : Nat} (ha : a < 2 ^ k) (hb : b < 2 ^ k) (h : k + 16 = m) : a + b < 2 ^ m := by
  subst h
  rw [Nat.pow_add]
  have : 2 ^ k * 2 ≤ 2 ^ k * 2 ^ 16 := Nat.mul_le_mul_left _ (by decide)
  omega
theorem mul16 {a b k m : Nat} (ha : a < 2 ^ k) (hb : b < 2 ^ k) (h : k + k = m) : a * b < 2 ^ m := by
  subst h
  rw [Nat.pow_add]
  exact Nat.mul_lt_mul'' ha hb
set_option maxRecDepth 100000 in
set_option maxHeartbeats 2000000 in
theorem RefAddMod_pos (a b n : Nat) (w : World) (ha : a < 2 ^ 256) (hb : b < 2 ^ 256) (hn : n < 2 ^ 256) (hn0 : 0 < n) : Calls Try.prog 16 #[.agg (wcells a), .agg (wcells b), .agg (wcells n)] w fun e w' => e = .returned (.agg (wcells ((a + b) % n))) ∧ Below w.heap.size w w' := by
  have hW := wordTy
  have zW := zWordL
  have HSW := Lib.hid wcells_size
  have H1W := Lib.hid wcells_one
  obtain ⟨r, Er⟩ : ∃ r, r = (a + b) % n := ⟨_, rfl⟩
  have HR := Lib.hid Er
  have HLT := Lib.hid (show r % 2 ^ 256 = r from Nat.mod_eq_of_lt (by rw [Er]; exact Nat.lt_trans (Nat.mod_lt _ hn0) hn))
  have HNN := Lib.hid (sum16 (m := 16 * 17) ha hb rfl)
  rw [← Er]
  clear Er
  have hq0 := fun w => eq_word n 0 hn (by decide) w
  rw [decide_eq_false (by omega), ← wcells_lit0] at hq0
  have HN0 := Lib.hid hn0
  have HA := Lib.hid ha
  have HBB := Lib.hid hb
  have HN := Lib.hid hn
  have ho := hq0
  clear hn0 ha hb hn hq0
  have tkE0 : True := trivial
  have tkE1 : True := trivial
  go_enter Try.func16, Try.ntmps16
  go_wp2_with (first
    | ((with_reducible refine gd_box ?_); have _t := tkE0; refine wpList_box_agg rfl _ (.tmp 0) rfl rfl ?_; clear tkE0; intro w1 hx1 hb1 hl1)
    | ((with_reducible refine gd_box ?_); have _t := tkE1; refine wpList_box_agg rfl _ (.tmp 1) rfl rfl ?_; clear tkE1; intro w2 hx2 hb2 hl2)
    | ((with_reducible refine gd_box ?_); refine wpList_box_agg rfl _ (.tmp 2) rfl rfl ?_; intro w3 hx3 hb3 hl3)
    | ((with_reducible refine gd_alloc ?_); refine wpList_alloc_blk rfl 23 rfl zW ?_; intro w4 hx4 hb4 hl4)
    | ((with_reducible refine gd_load ?_); refine wpList_load_blk rfl 23 (.tmp 5) rfl (hx3.ext hb4) (by rw [HSW.out]; exact hW) rfl ?_)
    | fail)
  clear ho
  have hy1 := (((hx1.ext hb2).ext hb3).ext hb4)
  have hy2 := ((hx2.ext hb3).ext hb4)
  have hy3 := (hx3.ext hb4)
  have hy4 := hx4
  have hB := (below_step (below_step (below_step hb1 hb2) hb3) hb4)
  have o1 := hx1.lt
  have o2 := hx2.lt
  have o3 := hx3.lt
  have o4 := hx4.lt
  have p1 := hb1.size
  have p2 := hb2.size
  have p3 := hb3.size
  have p4 := hb4.size
  clear hx1 hx2 hx3 hx4 hb1 hb2 hb3 hb4 hl1 hl2 hl3 hl4
  refine wp_region_loose (by kernel_rfl) (by kernel_rfl) (by kernel_rfl) rfl (RelW w none 23 32 (wcells 0)) relW_refl relW_trans (DKs [.val (.agg (wcells a)), .dig 16 a, .val (.agg (wcells b)), .dig 16 b, .dig 17 (a + b), .val (.agg (wcells n)), .dig 16 n, .pair 17 ((a + b) / n) 17 ((a + b) % n), .pair 17 ((a + b) / n) 17 ((a + b) % n), .dig 17 ((a + b) / n), .dig 17 ((a + b) % n), .dig 17 ((a + b) / n), .dig 17 ((a + b) % n)] w4.heap.size none 23 (wcells 0)) (DKs_stays (by intro g e; cases e)) ?_ ?_
  · refine ⟨?_, ?_, ?_, ?_, ?_, ?_, ?_, ?_, ?_, ?_, ?_, ?_, ?_, trivial⟩
    · intro V wx fr hw hd hs hdef hsz
      have s3 : fr.tmps[3]? = some (.pointer (some ⟨w.heap.size, 0, none⟩)) := hs.1
      clear hs
      refine ⟨?_⟩
      refine wpList_load_blk rfl 23 (.tmp 3) rfl (hy1.drew.row hw.gr (by simp)) (by rw [HSW.out]; exact hW) (by simp [Act.eval, s3]) ?_
      refine wpList_nil ?_
      exact op_put hdef hsz (relW_refl _) rfl
    · intro V wx fr hw hd hs hdef hsz
      simp only [DepFacts, Region.binds, forall_const, and_true] at hd
      have d0 := hd
      clear hd
      have s14 : fr.tmps[14]? = some (V 0) := hs.1
      clear hs
      have e0 : V 0 = (.agg (wcells a)) := d0
      rw [e0] at s14
      clear e0
      have hsx := hw.gr.size
      refine ⟨?_⟩
      go_wp2_with fail
      refine (limbs_any a wx HA.out).mono ?_
      rintro e w2 ⟨g, rfl, hg, hx, hb2⟩
      go_wp2
      exact op_post hsz (relW_below hb2) ⟨g, 16, rfl, Nat.le_trans (by simpa using hsx) hg, hx.rd⟩
    · intro V wx fr hw hd hs hdef hsz
      have s4 : fr.tmps[4]? = some (.pointer (some ⟨w1.heap.size, 0, none⟩)) := hs.1
      clear hs
      refine ⟨?_⟩
      refine wpList_load_blk rfl 23 (.tmp 4) rfl (hy2.drew.row hw.gr (by simp)) (by rw [HSW.out]; exact hW) (by simp [Act.eval, s4]) ?_
      refine wpList_nil ?_
      exact op_put hdef hsz (relW_refl _) rfl
    · intro V wx fr hw hd hs hdef hsz
      simp only [DepFacts, Region.binds, forall_const, and_true] at hd
      have d2 := hd.1
      clear hd
      have s16 : fr.tmps[16]? = some (V 2) := hs.1
      clear hs
      have e2 : V 2 = (.agg (wcells b)) := d2
      rw [e2] at s16
      clear e2
      have hsx := hw.gr.size
      refine ⟨?_⟩
      go_wp2_with fail
      refine (limbs_any b wx HBB.out).mono ?_
      rintro e w2 ⟨g, rfl, hg, hx, hb2⟩
      go_wp2
      exact op_post hsz (relW_below hb2) ⟨g, 16, rfl, Nat.le_trans (by simpa using hsx) hg, hx.rd⟩
    · intro V wx fr hw hd hs hdef hsz
      simp only [DepFacts, Region.binds, forall_const, and_true] at hd
      have d1 := hd.1
      have d3 := hd.2.1
      clear hd
      have s15 : fr.tmps[15]? = some (V 1) := hs.1
      have s17 : fr.tmps[17]? = some (V 3) := hs.2.1
      clear hs
      obtain ⟨g1, c1, e1, hg1, r1⟩ := d1
      rw [e1] at s15
      obtain ⟨g3, c3, e3, hg3, r3⟩ := d3
      rw [e3] at s17
      clear e1 e3
      have hsx := hw.gr.size
      refine ⟨?_⟩
      go_wp2_with fail
      refine (refadd_any ⟨g1, 0, none⟩ ⟨g3, 0, none⟩ 16 c1 c3 a b wx HA.out HBB.out (by decide) (by decide) r1 r3).mono ?_
      rintro e w2 ⟨g, c, rfl, hg, hx, hb2⟩
      go_wp2
      exact op_post hsz (relW_below hb2) ⟨g, c, rfl, Nat.le_trans (by simpa using hsx) hg, hx⟩
    · intro V wx fr hw hd hs hdef hsz
      have s5 : fr.tmps[5]? = some (.pointer (some ⟨w2.heap.size, 0, none⟩)) := hs.1
      clear hs
      refine ⟨?_⟩
      refine wpList_load_blk rfl 23 (.tmp 5) rfl (hy3.drew.row hw.gr (by simp)) (by rw [HSW.out]; exact hW) (by simp [Act.eval, s5]) ?_
      refine wpList_nil ?_
      exact op_put hdef hsz (relW_refl _) rfl
    · intro V wx fr hw hd hs hdef hsz
      simp only [DepFacts, Region.binds, forall_const, and_true] at hd
      have d5 := hd.1
      clear hd
      have s19 : fr.tmps[19]? = some (V 5) := hs.1
      clear hs
      have e5 : V 5 = (.agg (wcells n)) := d5
      rw [e5] at s19
      clear e5
      have hsx := hw.gr.size
      refine ⟨?_⟩
      go_wp2_with fail
      refine (limbs_any n wx HN.out).mono ?_
      rintro e w2 ⟨g, rfl, hg, hx, hb2⟩
      go_wp2
      exact op_post hsz (relW_below hb2) ⟨g, 16, rfl, Nat.le_trans (by simpa using hsx) hg, hx.rd⟩
    · intro V wx fr hw hd hs hdef hsz
      simp only [DepFacts, Region.binds, forall_const, and_true] at hd
      have d4 := hd.1
      have d6 := hd.2.1
      clear hd
      have s18 : fr.tmps[18]? = some (V 4) := hs.1
      have s20 : fr.tmps[20]? = some (V 6) := hs.2.1
      clear hs
      obtain ⟨g4, c4, e4, hg4, r4⟩ := d4
      rw [e4] at s18
      obtain ⟨g6, c6, e6, hg6, r6⟩ := d6
      rw [e6] at s20
      clear e4 e6
      have hsx := hw.gr.size
      refine ⟨?_⟩
      go_wp2_with fail
      refine (refdiv_any ⟨g4, 0, none⟩ ⟨g6, 0, none⟩ 17 c4 c6 (a + b) n wx (by decide) (by decide) HNN.out HN0.out HN.out r4 r6).mono ?_
      rintro e w2 ⟨g, h, rfl, hg, hh, hx, hy, hb2⟩
      go_wp2
      exact op_post hsz (relW_below hb2) ⟨g, h, 17, 17, rfl, Nat.le_trans (by simpa using hsx) hg, Nat.le_trans (by simpa using hsx) hh, hx.rd, hy.rd⟩
    · intro V wx fr hw hd hs hdef hsz
      simp only [DepFacts, Region.binds, forall_const, and_true] at hd
      have d7 := hd
      clear hd
      have s21 : fr.tmps[21]? = some (V 7) := hs.1
      clear hs
      obtain ⟨g7, h7, c7, k7, e7, hg7, hh7, r7, t7⟩ := d7
      rw [e7] at s21
      clear e7
      have hsx := hw.gr.size
      refine ⟨?_⟩
      go_wp2
      exact op_post hsz (relW_refl _) ⟨g7, h7, c7, k7, rfl, hg7, hh7, r7, t7⟩
    · intro V wx fr hw hd hs hdef hsz
      simp only [DepFacts, Region.binds, forall_const, and_true] at hd
      have d8 := hd
      clear hd
      have s13 : fr.tmps[13]? = some (V 8) := hs.1
      clear hs
      obtain ⟨g8, h8, c8, k8, e8, hg8, hh8, r8, t8⟩ := d8
      rw [e8] at s13
      clear e8
      have hsx := hw.gr.size
      refine ⟨?_⟩
      go_wp2
      exact op_post hsz (relW_refl _) ⟨g8, c8, rfl, hg8, r8⟩
    · intro V wx fr hw hd hs hdef hsz
      simp only [DepFacts, Region.binds, forall_const, and_true] at hd
      have d8 := hd.1
      clear hd
      have s13 : fr.tmps[13]? = some (V 8) := hs.1
      clear hs
      obtain ⟨g8, h8, c8, k8, e8, hg8, hh8, r8, t8⟩ := d8
      rw [e8] at s13
      clear e8
      have hsx := hw.gr.size
      refine ⟨?_⟩
      go_wp2
      exact op_post hsz (relW_refl _) ⟨h8, k8, rfl, hh8, t8⟩
    · intro V wx fr hw hd hs hdef hsz
      simp only [DepFacts, Region.binds, forall_const, and_true] at hd
      have d9 := hd.1
      clear hd
      have s22 : fr.tmps[22]? = some (V 9) := hs.1
      clear hs
      obtain ⟨g9, c9, e9, hg9, r9⟩ := d9
      rw [e9] at s22
      clear e9
      have hsx := hw.gr.size
      refine ⟨?_⟩
      go_wp2
      exact op_post hsz (relW_refl _) ⟨g9, c9, rfl, hg9, r9⟩
    · intro V wx fr hw hd hs hdef hsz
      simp only [DepFacts, Region.binds, forall_const, and_true] at hd
      have d10 := hd.1
      clear hd
      have s23 : fr.tmps[23]? = some (V 10) := hs.1
      clear hs
      obtain ⟨g10, c10, e10, hg10, r10⟩ := d10
      rw [e10] at s23
      clear e10
      have hsx := hw.gr.size
      refine ⟨?_⟩
      go_wp2
      exact op_post hsz (relW_refl _) ⟨g10, c10, rfl, hg10, r10⟩
  · intro V wz hr hS
    replace hS : DKs [.val (.agg (wcells a)), .dig 16 a, .val (.agg (wcells b)), .dig 16 b, .dig 17 (a + b), .val (.agg (wcells n)), .dig 16 n, .pair 17 ((a + b) / n) 17 ((a + b) % n), .pair 17 ((a + b) / n) 17 ((a + b) % n), .dig 17 ((a + b) / n), .dig 17 ((a + b) % n), .dig 17 ((a + b) / n), .dig 17 ((a + b) % n)] w4.heap.size none 23 (wcells 0) 0 (V 0) wz ∧ DKs [.val (.agg (wcells a)), .dig 16 a, .val (.agg (wcells b)), .dig 16 b, .dig 17 (a + b), .val (.agg (wcells n)), .dig 16 n, .pair 17 ((a + b) / n) 17 ((a + b) % n), .pair 17 ((a + b) / n) 17 ((a + b) % n), .dig 17 ((a + b) / n), .dig 17 ((a + b) % n), .dig 17 ((a + b) / n), .dig 17 ((a + b) % n)] w4.heap.size none 23 (wcells 0) 1 (V 1) wz ∧ DKs [.val (.agg (wcells a)), .dig 16 a, .val (.agg (wcells b)), .dig 16 b, .dig 17 (a + b), .val (.agg (wcells n)), .dig 16 n, .pair 17 ((a + b) / n) 17 ((a + b) % n), .pair 17 ((a + b) / n) 17 ((a + b) % n), .dig 17 ((a + b) / n), .dig 17 ((a + b) % n), .dig 17 ((a + b) / n), .dig 17 ((a + b) % n)] w4.heap.size none 23 (wcells 0) 2 (V 2) wz ∧ DKs [.val (.agg (wcells a)), .dig 16 a, .val (.agg (wcells b)), .dig 16 b, .dig 17 (a + b), .val (.agg (wcells n)), .dig 16 n, .pair 17 ((a + b) / n) 17 ((a + b) % n), .pair 17 ((a + b) / n) 17 ((a + b) % n), .dig 17 ((a + b) / n), .dig 17 ((a + b) % n), .dig 17 ((a + b) / n), .dig 17 ((a + b) % n)] w4.heap.size none 23 (wcells 0) 3 (V 3) wz ∧ DKs [.val (.agg (wcells a)), .dig 16 a, .val (.agg (wcells b)), .dig 16 b, .dig 17 (a + b), .val (.agg (wcells n)), .dig 16 n, .pair 17 ((a + b) / n) 17 ((a + b) % n), .pair 17 ((a + b) / n) 17 ((a + b) % n), .dig 17 ((a + b) / n), .dig 17 ((a + b) % n), .dig 17 ((a + b) / n), .dig 17 ((a + b) % n)] w4.heap.size none 23 (wcells 0) 4 (V 4) wz ∧ DKs [.val (.agg (wcells a)), .dig 16 a, .val (.agg (wcells b)), .dig 16 b, .dig 17 (a + b), .val (.agg (wcells n)), .dig 16 n, .pair 17 ((a + b) / n) 17 ((a + b) % n), .pair 17 ((a + b) / n) 17 ((a + b) % n), .dig 17 ((a + b) / n), .dig 17 ((a + b) % n), .dig 17 ((a + b) / n), .dig 17 ((a + b) % n)] w4.heap.size none 23 (wcells 0) 5 (V 5) wz ∧ DKs [.val (.agg (wcells a)), .dig 16 a, .val (.agg (wcells b)), .dig 16 b, .dig 17 (a + b), .val (.agg (wcells n)), .dig 16 n, .pair 17 ((a + b) / n) 17 ((a + b) % n), .pair 17 ((a + b) / n) 17 ((a + b) % n), .dig 17 ((a + b) / n), .dig 17 ((a + b) % n), .dig 17 ((a + b) / n), .dig 17 ((a + b) % n)] w4.heap.size none 23 (wcells 0) 6 (V 6) wz ∧ DKs [.val (.agg (wcells a)), .dig 16 a, .val (.agg (wcells b)), .dig 16 b, .dig 17 (a + b), .val (.agg (wcells n)), .dig 16 n, .pair 17 ((a + b) / n) 17 ((a + b) % n), .pair 17 ((a + b) / n) 17 ((a + b) % n), .dig 17 ((a + b) / n), .dig 17 ((a + b) % n), .dig 17 ((a + b) / n), .dig 17 ((a + b) % n)] w4.heap.size none 23 (wcells 0) 7 (V 7) wz ∧ DKs [.val (.agg (wcells a)), .dig 16 a, .val (.agg (wcells b)), .dig 16 b, .dig 17 (a + b), .val (.agg (wcells n)), .dig 16 n, .pair 17 ((a + b) / n) 17 ((a + b) % n), .pair 17 ((a + b) / n) 17 ((a + b) % n), .dig 17 ((a + b) / n), .dig 17 ((a + b) % n), .dig 17 ((a + b) / n), .dig 17 ((a + b) % n)] w4.heap.size none 23 (wcells 0) 8 (V 8) wz ∧ DKs [.val (.agg (wcells a)), .dig 16 a, .val (.agg (wcells b)), .dig 16 b, .dig 17 (a + b), .val (.agg (wcells n)), .dig 16 n, .pair 17 ((a + b) / n) 17 ((a + b) % n), .pair 17 ((a + b) / n) 17 ((a + b) % n), .dig 17 ((a + b) / n), .dig 17 ((a + b) % n), .dig 17 ((a + b) / n), .dig 17 ((a + b) % n)] w4.heap.size none 23 (wcells 0) 9 (V 9) wz ∧ DKs [.val (.agg (wcells a)), .dig 16 a, .val (.agg (wcells b)), .dig 16 b, .dig 17 (a + b), .val (.agg (wcells n)), .dig 16 n, .pair 17 ((a + b) / n) 17 ((a + b) % n), .pair 17 ((a + b) / n) 17 ((a + b) % n), .dig 17 ((a + b) / n), .dig 17 ((a + b) % n), .dig 17 ((a + b) / n), .dig 17 ((a + b) % n)] w4.heap.size none 23 (wcells 0) 10 (V 10) wz ∧ DKs [.val (.agg (wcells a)), .dig 16 a, .val (.agg (wcells b)), .dig 16 b, .dig 17 (a + b), .val (.agg (wcells n)), .dig 16 n, .pair 17 ((a + b) / n) 17 ((a + b) % n), .pair 17 ((a + b) / n) 17 ((a + b) % n), .dig 17 ((a + b) / n), .dig 17 ((a + b) % n), .dig 17 ((a + b) / n), .dig 17 ((a + b) % n)] w4.heap.size none 23 (wcells 0) 11 (V 11) wz ∧ DKs [.val (.agg (wcells a)), .dig 16 a, .val (.agg (wcells b)), .dig 16 b, .dig 17 (a + b), .val (.agg (wcells n)), .dig 16 n, .pair 17 ((a + b) / n) 17 ((a + b) % n), .pair 17 ((a + b) / n) 17 ((a + b) % n), .dig 17 ((a + b) / n), .dig 17 ((a + b) % n), .dig 17 ((a + b) / n), .dig 17 ((a + b) % n)] w4.heap.size none 23 (wcells 0) 12 (V 12) wz ∧ True := hS
    have hBz := hr.bel hB.drew
    have hx5 := hy4.drew.row hr.gr (by simp)
    have hzs := hr.gr.size
    obtain ⟨g8, c8, e8, hg8, r8⟩ := hS.2.2.2.2.2.2.2.2.2.2.2.2.1
    clear hS hr
    simp only [fill, Act.put, e8]
    clear e8
    simp only [Exit.then]
    go_simp
    go_wp2_with (first
      | (go_at_call 56; refine (refword_any ⟨g8, 0, none⟩ 17 c8 ((a + b) % n) wz (by decide) (by decide) r8).mono ?_; rintro e w5 ⟨rfl, hb5⟩)
      | ((with_reducible refine gd_store ?_); refine wpList_store_all rfl 23 (.tmp 6) (.tmp 25) rfl (wcells r) (hx5.ext hb5) (by rw [HSW.out]; exact hW) (by rw [HSW.out]; exact HSW.out 0) (H1W.out _) (by rfl) (congrArg Value.agg (congrArg wcells (by rw [← HR.out]; exact HLT.out))) ?_; intro w6 hx6 hg6)
      | fail)
    have hB5 := below_step hBz hb5
    have hB6 := below_blk hB5 hB5.size hg6 (by omega)
    exact bodyPost_ret (results_blk1 (cs := wcells r) rfl (by rw [HSW.out]; exact hW) hx6 rfl) rfl ⟨by rw [HR.out], hB6⟩
set_option maxRecDepth 100000 in
set_option maxHeartbeats 2000000 in
theorem RefMulMod_pos (a b n : Nat) (w : World) (ha : a < 2 ^ 256) (hb : b < 2 ^ 256) (hn : n < 2 ^ 256) (hn0 : 0 < n) : Calls Try.prog 18 #[.agg (wcells a), .agg (wcells b), .agg (wcells n)] w fun e w' => e = .returned (.agg (wcells ((a * b) % n))) ∧ Below w.heap.size w w' := by
  have hW := wordTy
  have zW := zWordL
  have HSW := Lib.hid wcells_size
  have H1W := Lib.hid wcells_one
  obtain ⟨r, Er⟩ : ∃ r, r = (a * b) % n := ⟨_, rfl⟩
  have HR := Lib.hid Er
  have HLT := Lib.hid (show r % 2 ^ 256 = r from Nat.mod_eq_of_lt (by rw [Er]; exact Nat.lt_trans (Nat.mod_lt _ hn0) hn))
  have HNN := Lib.hid (mul16 (m := 16 * 32) ha hb rfl)
  rw [← Er]
  clear Er
  have hq0 := fun w => eq_word n 0 hn (by decide) w
  rw [decide_eq_false (by omega), ← wcells_lit0] at hq0
  have HN0 := Lib.hid hn0
  have HA := Lib.hid ha
  have HBB := Lib.hid hb
  have HN := Lib.hid hn
  have ho := hq0
  clear hn0 ha hb hn hq0
  have tkE0 : True := trivial
  have tkE1 : True := trivial
  go_enter Try.func18, Try.ntmps18
  go_wp2_with (first
    | ((with_reducible refine gd_box ?_); have _t := tkE0; refine wpList_box_agg rfl _ (.tmp 0) rfl rfl ?_; clear tkE0; intro w1 hx1 hb1 hl1)
    | ((with_reducible refine gd_box ?_); have _t := tkE1; refine wpList_box_agg rfl _ (.tmp 1) rfl rfl ?_; clear tkE1; intro w2 hx2 hb2 hl2)
    | ((with_reducible refine gd_box ?_); refine wpList_box_agg rfl _ (.tmp 2) rfl rfl ?_; intro w3 hx3 hb3 hl3)
    | ((with_reducible refine gd_alloc ?_); refine wpList_alloc_blk rfl 23 rfl zW ?_; intro w4 hx4 hb4 hl4)
    | ((with_reducible refine gd_load ?_); refine wpList_load_blk rfl 23 (.tmp 5) rfl (hx3.ext hb4) (by rw [HSW.out]; exact hW) rfl ?_)
    | fail)
  clear ho
  have hy1 := (((hx1.ext hb2).ext hb3).ext hb4)
  have hy2 := ((hx2.ext hb3).ext hb4)
  have hy3 := (hx3.ext hb4)
  have hy4 := hx4
  have hB := (below_step (below_step (below_step hb1 hb2) hb3) hb4)
  have o1 := hx1.lt
  have o2 := hx2.lt
  have o3 := hx3.lt
  have o4 := hx4.lt
  have p1 := hb1.size
  have p2 := hb2.size
  have p3 := hb3.size
  have p4 := hb4.size
  clear hx1 hx2 hx3 hx4 hb1 hb2 hb3 hb4 hl1 hl2 hl3 hl4
  refine wp_region_loose (by kernel_rfl) (by kernel_rfl) (by kernel_rfl) rfl (RelW w none 23 32 (wcells 0)) relW_refl relW_trans (DKs [.val (.agg (wcells a)), .dig 16 a, .val (.agg (wcells b)), .dig 16 b, .dig 32 (a * b), .val (.agg (wcells n)), .dig 16 n, .pair 32 ((a * b) / n) 17 ((a * b) % n), .pair 32 ((a * b) / n) 17 ((a * b) % n), .dig 32 ((a * b) / n), .dig 17 ((a * b) % n), .dig 32 ((a * b) / n), .dig 17 ((a * b) % n)] w4.heap.size none 23 (wcells 0)) (DKs_stays (by intro g e; cases e)) ?_ ?_
  · refine ⟨?_, ?_, ?_, ?_, ?_, ?_, ?_, ?_, ?_, ?_, ?_, ?_, ?_, trivial⟩
    · intro V wx fr hw hd hs hdef hsz
      have s3 : fr.tmps[3]? = some (.pointer (some ⟨w.heap.size, 0, none⟩)) := hs.1
      clear hs
      refine ⟨?_⟩
      refine wpList_load_blk rfl 23 (.tmp 3) rfl (hy1.drew.row hw.gr (by simp)) (by rw [HSW.out]; exact hW) (by simp [Act.eval, s3]) ?_
      refine wpList_nil ?_
      exact op_put hdef hsz (relW_refl _) rfl
    · intro V wx fr hw hd hs hdef hsz
      simp only [DepFacts, Region.binds, forall_const, and_true] at hd
      have d0 := hd
      clear hd
      have s14 : fr.tmps[14]? = some (V 0) := hs.1
      clear hs
      have e0 : V 0 = (.agg (wcells a)) := d0
      rw [e0] at s14
      clear e0
      have hsx := hw.gr.size
      refine ⟨?_⟩
      go_wp2_with fail
      refine (limbs_any a wx HA.out).mono ?_
      rintro e w2 ⟨g, rfl, hg, hx, hb2⟩
      go_wp2
      exact op_post hsz (relW_below hb2) ⟨g, 16, rfl, Nat.le_trans (by simpa using hsx) hg, hx.rd⟩
    · intro V wx fr hw hd hs hdef hsz
      have s4 : fr.tmps[4]? = some (.pointer (some ⟨w1.heap.size, 0, none⟩)) := hs.1
      clear hs
      refine ⟨?_⟩
      refine wpList_load_blk rfl 23 (.tmp 4) rfl (hy2.drew.row hw.gr (by simp)) (by rw [HSW.out]; exact hW) (by simp [Act.eval, s4]) ?_
      refine wpList_nil ?_
      exact op_put hdef hsz (relW_refl _) rfl
    · intro V wx fr hw hd hs hdef hsz
      simp only [DepFacts, Region.binds, forall_const, and_true] at hd
      have d2 := hd.1
      clear hd
      have s16 : fr.tmps[16]? = some (V 2) := hs.1
      clear hs
      have e2 : V 2 = (.agg (wcells b)) := d2
      rw [e2] at s16
      clear e2
      have hsx := hw.gr.size
      refine ⟨?_⟩
      go_wp2_with fail
      refine (limbs_any b wx HBB.out).mono ?_
      rintro e w2 ⟨g, rfl, hg, hx, hb2⟩
      go_wp2
      exact op_post hsz (relW_below hb2) ⟨g, 16, rfl, Nat.le_trans (by simpa using hsx) hg, hx.rd⟩
    · intro V wx fr hw hd hs hdef hsz
      simp only [DepFacts, Region.binds, forall_const, and_true] at hd
      have d1 := hd.1
      have d3 := hd.2.1
      clear hd
      have s15 : fr.tmps[15]? = some (V 1) := hs.1
      have s17 : fr.tmps[17]? = some (V 3) := hs.2.1
      clear hs
      obtain ⟨g1, c1, e1, hg1, r1⟩ := d1
      rw [e1] at s15
      obtain ⟨g3, c3, e3, hg3, r3⟩ := d3
      rw [e3] at s17
      clear e1 e3
      have hsx := hw.gr.size
      refine ⟨?_⟩
      go_wp2_with fail
      refine (refmul_any ⟨g1, 0, none⟩ ⟨g3, 0, none⟩ c1 c3 a b wx HA.out HBB.out r1 r3).mono ?_
      rintro e w2 ⟨g, rfl, hg, hx, hb2⟩
      go_wp2
      exact op_post hsz (relW_below hb2) ⟨g, 32, rfl, Nat.le_trans (by simpa using hsx) hg, hx.rd⟩
    · intro V wx fr hw hd hs hdef hsz
      have s5 : fr.tmps[5]? = some (.pointer (some ⟨w2.heap.size, 0, none⟩)) := hs.1
      clear hs
      refine ⟨?_⟩
      refine wpList_load_blk rfl 23 (.tmp 5) rfl (hy3.drew.row hw.gr (by simp)) (by rw [HSW.out]; exact hW) (by simp [Act.eval, s5]) ?_
      refine wpList_nil ?_
      exact op_put hdef hsz (relW_refl _) rfl
    · intro V wx fr hw hd hs hdef hsz
      simp only [DepFacts, Region.binds, forall_const, and_true] at hd
      have d5 := hd.1
      clear hd
      have s19 : fr.tmps[19]? = some (V 5) := hs.1
      clear hs
      have e5 : V 5 = (.agg (wcells n)) := d5
      rw [e5] at s19
      clear e5
      have hsx := hw.gr.size
      refine ⟨?_⟩
      go_wp2_with fail
      refine (limbs_any n wx HN.out).mono ?_
      rintro e w2 ⟨g, rfl, hg, hx, hb2⟩
      go_wp2
      exact op_post hsz (relW_below hb2) ⟨g, 16, rfl, Nat.le_trans (by simpa using hsx) hg, hx.rd⟩
    · intro V wx fr hw hd hs hdef hsz
      simp only [DepFacts, Region.binds, forall_const, and_true] at hd
      have d4 := hd.1
      have d6 := hd.2.1
      clear hd
      have s18 : fr.tmps[18]? = some (V 4) := hs.1
      have s20 : fr.tmps[20]? = some (V 6) := hs.2.1
      clear hs
      obtain ⟨g4, c4, e4, hg4, r4⟩ := d4
      rw [e4] at s18
      obtain ⟨g6, c6, e6, hg6, r6⟩ := d6
      rw [e6] at s20
      clear e4 e6
      have hsx := hw.gr.size
      refine ⟨?_⟩
      go_wp2_with fail
      refine (refdiv_any ⟨g4, 0, none⟩ ⟨g6, 0, none⟩ 32 c4 c6 (a * b) n wx (by decide) (by decide) HNN.out HN0.out HN.out r4 r6).mono ?_
      rintro e w2 ⟨g, h, rfl, hg, hh, hx, hy, hb2⟩
      go_wp2
      exact op_post hsz (relW_below hb2) ⟨g, h, 32, 17, rfl, Nat.le_trans (by simpa using hsx) hg, Nat.le_trans (by simpa using hsx) hh, hx.rd, hy.rd⟩
    · intro V wx fr hw hd hs hdef hsz
      simp only [DepFacts, Region.binds, forall_const, and_true] at hd
      have d7 := hd
      clear hd
      have s21 : fr.tmps[21]? = some (V 7) := hs.1
      clear hs
      obtain ⟨g7, h7, c7, k7, e7, hg7, hh7, r7, t7⟩ := d7
      rw [e7] at s21
      clear e7
      have hsx := hw.gr.size
      refine ⟨?_⟩
      go_wp2
      exact op_post hsz (relW_refl _) ⟨g7, h7, c7, k7, rfl, hg7, hh7, r7, t7⟩
    · intro V wx fr hw hd hs hdef hsz
      simp only [DepFacts, Region.binds, forall_const, and_true] at hd
      have d8 := hd
      clear hd
      have s13 : fr.tmps[13]? = some (V 8) := hs.1
      clear hs
      obtain ⟨g8, h8, c8, k8, e8, hg8, hh8, r8, t8⟩ := d8
      rw [e8] at s13
      clear e8
      have hsx := hw.gr.size
      refine ⟨?_⟩
      go_wp2
      exact op_post hsz (relW_refl _) ⟨g8, c8, rfl, hg8, r8⟩
    · intro V wx fr hw hd hs hdef hsz
      simp only [DepFacts, Region.binds, forall_const, and_true] at hd
      have d8 := hd.1
      clear hd
      have s13 : fr.tmps[13]? = some (V 8) := hs.1
      clear hs
      obtain ⟨g8, h8, c8, k8, e8, hg8, hh8, r8, t8⟩ := d8
      rw [e8] at s13
      clear e8
      have hsx := hw.gr.size
      refine ⟨?_⟩
      go_wp2
      exact op_post hsz (relW_refl _) ⟨h8, k8, rfl, hh8, t8⟩
    · intro V wx fr hw hd hs hdef hsz
      simp only [DepFacts, Region.binds, forall_const, and_true] at hd
      have d9 := hd.1
      clear hd
      have s22 : fr.tmps[22]? = some (V 9) := hs.1
      clear hs
      obtain ⟨g9, c9, e9, hg9, r9⟩ := d9
      rw [e9] at s22
      clear e9
      have hsx := hw.gr.size
      refine ⟨?_⟩
      go_wp2
      exact op_post hsz (relW_refl _) ⟨g9, c9, rfl, hg9, r9⟩
    · intro V wx fr hw hd hs hdef hsz
      simp only [DepFacts, Region.binds, forall_const, and_true] at hd
      have d10 := hd.1
      clear hd
      have s23 : fr.tmps[23]? = some (V 10) := hs.1
      clear hs
      obtain ⟨g10, c10, e10, hg10, r10⟩ := d10
      rw [e10] at s23
      clear e10
      have hsx := hw.gr.size
      refine ⟨?_⟩
      go_wp2
      exact op_post hsz (relW_refl _) ⟨g10, c10, rfl, hg10, r10⟩
  · intro V wz hr hS
    replace hS : DKs [.val (.agg (wcells a)), .dig 16 a, .val (.agg (wcells b)), .dig 16 b, .dig 32 (a * b), .val (.agg (wcells n)), .dig 16 n, .pair 32 ((a * b) / n) 17 ((a * b) % n), .pair 32 ((a * b) / n) 17 ((a * b) % n), .dig 32 ((a * b) / n), .dig 17 ((a * b) % n), .dig 32 ((a * b) / n), .dig 17 ((a * b) % n)] w4.heap.size none 23 (wcells 0) 0 (V 0) wz ∧ DKs [.val (.agg (wcells a)), .dig 16 a, .val (.agg (wcells b)), .dig 16 b, .dig 32 (a * b), .val (.agg (wcells n)), .dig 16 n, .pair 32 ((a * b) / n) 17 ((a * b) % n), .pair 32 ((a * b) / n) 17 ((a * b) % n), .dig 32 ((a * b) / n), .dig 17 ((a * b) % n), .dig 32 ((a * b) / n), .dig 17 ((a * b) % n)] w4.heap.size none 23 (wcells 0) 1 (V 1) wz ∧ DKs [.val (.agg (wcells a)), .dig 16 a, .val (.agg (wcells b)), .dig 16 b, .dig 32 (a * b), .val (.agg (wcells n)), .dig 16 n, .pair 32 ((a * b) / n) 17 ((a * b) % n), .pair 32 ((a * b) / n) 17 ((a * b) % n), .dig 32 ((a * b) / n), .dig 17 ((a * b) % n), .dig 32 ((a * b) / n), .dig 17 ((a * b) % n)] w4.heap.size none 23 (wcells 0) 2 (V 2) wz ∧ DKs [.val (.agg (wcells a)), .dig 16 a, .val (.agg (wcells b)), .dig 16 b, .dig 32 (a * b), .val (.agg (wcells n)), .dig 16 n, .pair 32 ((a * b) / n) 17 ((a * b) % n), .pair 32 ((a * b) / n) 17 ((a * b) % n), .dig 32 ((a * b) / n), .dig 17 ((a * b) % n), .dig 32 ((a * b) / n), .dig 17 ((a * b) % n)] w4.heap.size none 23 (wcells 0) 3 (V 3) wz ∧ DKs [.val (.agg (wcells a)), .dig 16 a, .val (.agg (wcells b)), .dig 16 b, .dig 32 (a * b), .val (.agg (wcells n)), .dig 16 n, .pair 32 ((a * b) / n) 17 ((a * b) % n), .pair 32 ((a * b) / n) 17 ((a * b) % n), .dig 32 ((a * b) / n), .dig 17 ((a * b) % n), .dig 32 ((a * b) / n), .dig 17 ((a * b) % n)] w4.heap.size none 23 (wcells 0) 4 (V 4) wz ∧ DKs [.val (.agg (wcells a)), .dig 16 a, .val (.agg (wcells b)), .dig 16 b, .dig 32 (a * b), .val (.agg (wcells n)), .dig 16 n, .pair 32 ((a * b) / n) 17 ((a * b) % n), .pair 32 ((a * b) / n) 17 ((a * b) % n), .dig 32 ((a * b) / n), .dig 17 ((a * b) % n), .dig 32 ((a * b) / n), .dig 17 ((a * b) % n)] w4.heap.size none 23 (wcells 0) 5 (V 5) wz ∧ DKs [.val (.agg (wcells a)), .dig 16 a, .val (.agg (wcells b)), .dig 16 b, .dig 32 (a * b), .val (.agg (wcells n)), .dig 16 n, .pair 32 ((a * b) / n) 17 ((a * b) % n), .pair 32 ((a * b) / n) 17 ((a * b) % n), .dig 32 ((a * b) / n), .dig 17 ((a * b) % n), .dig 32 ((a * b) / n), .dig 17 ((a * b) % n)] w4.heap.size none 23 (wcells 0) 6 (V 6) wz ∧ DKs [.val (.agg (wcells a)), .dig 16 a, .val (.agg (wcells b)), .dig 16 b, .dig 32 (a * b), .val (.agg (wcells n)), .dig 16 n, .pair 32 ((a * b) / n) 17 ((a * b) % n), .pair 32 ((a * b) / n) 17 ((a * b) % n), .dig 32 ((a * b) / n), .dig 17 ((a * b) % n), .dig 32 ((a * b) / n), .dig 17 ((a * b) % n)] w4.heap.size none 23 (wcells 0) 7 (V 7) wz ∧ DKs [.val (.agg (wcells a)), .dig 16 a, .val (.agg (wcells b)), .dig 16 b, .dig 32 (a * b), .val (.agg (wcells n)), .dig 16 n, .pair 32 ((a * b) / n) 17 ((a * b) % n), .pair 32 ((a * b) / n) 17 ((a * b) % n), .dig 32 ((a * b) / n), .dig 17 ((a * b) % n), .dig 32 ((a * b) / n), .dig 17 ((a * b) % n)] w4.heap.size none 23 (wcells 0) 8 (V 8) wz ∧ DKs [.val (.agg (wcells a)), .dig 16 a, .val (.agg (wcells b)), .dig 16 b, .dig 32 (a * b), .val (.agg (wcells n)), .dig 16 n, .pair 32 ((a * b) / n) 17 ((a * b) % n), .pair 32 ((a * b) / n) 17 ((a * b) % n), .dig 32 ((a * b) / n), .dig 17 ((a * b) % n), .dig 32 ((a * b) / n), .dig 17 ((a * b) % n)] w4.heap.size none 23 (wcells 0) 9 (V 9) wz ∧ DKs [.val (.agg (wcells a)), .dig 16 a, .val (.agg (wcells b)), .dig 16 b, .dig 32 (a * b), .val (.agg (wcells n)), .dig 16 n, .pair 32 ((a * b) / n) 17 ((a * b) % n), .pair 32 ((a * b) / n) 17 ((a * b) % n), .dig 32 ((a * b) / n), .dig 17 ((a * b) % n), .dig 32 ((a * b) / n), .dig 17 ((a * b) % n)] w4.heap.size none 23 (wcells 0) 10 (V 10) wz ∧ DKs [.val (.agg (wcells a)), .dig 16 a, .val (.agg (wcells b)), .dig 16 b, .dig 32 (a * b), .val (.agg (wcells n)), .dig 16 n, .pair 32 ((a * b) / n) 17 ((a * b) % n), .pair 32 ((a * b) / n) 17 ((a * b) % n), .dig 32 ((a * b) / n), .dig 17 ((a * b) % n), .dig 32 ((a * b) / n), .dig 17 ((a * b) % n)] w4.heap.size none 23 (wcells 0) 11 (V 11) wz ∧ DKs [.val (.agg (wcells a)), .dig 16 a, .val (.agg (wcells b)), .dig 16 b, .dig 32 (a * b), .val (.agg (wcells n)), .dig 16 n, .pair 32 ((a * b) / n) 17 ((a * b) % n), .pair 32 ((a * b) / n) 17 ((a * b) % n), .dig 32 ((a * b) / n), .dig 17 ((a * b) % n), .dig 32 ((a * b) / n), .dig 17 ((a * b) % n)] w4.heap.size none 23 (wcells 0) 12 (V 12) wz ∧ True := hS
    have hBz := hr.bel hB.drew
    have hx5 := hy4.drew.row hr.gr (by simp)
    have hzs := hr.gr.size
    obtain ⟨g8, c8, e8, hg8, r8⟩ := hS.2.2.2.2.2.2.2.2.2.2.2.2.1
    clear hS hr
    simp only [fill, Act.put, e8]
    clear e8
    simp only [Exit.then]
    go_simp
    go_wp2_with (first
      | (go_at_call 56; refine (refword_any ⟨g8, 0, none⟩ 17 c8 ((a * b) % n) wz (by decide) (by decide) r8).mono ?_; rintro e w5 ⟨rfl, hb5⟩)
      | ((with_reducible refine gd_store ?_); refine wpList_store_all rfl 23 (.tmp 6) (.tmp 25) rfl (wcells r) (hx5.ext hb5) (by rw [HSW.out]; exact hW) (by rw [HSW.out]; exact HSW.out 0) (H1W.out _) (by rfl) (congrArg Value.agg (congrArg wcells (by rw [← HR.out]; exact HLT.out))) ?_; intro w6 hx6 hg6)
      | fail)
    have hB5 := below_step hBz hb5
    have hB6 := below_blk hB5 hB5.size hg6 (by omega)
    exact bodyPost_ret (results_blk1 (cs := wcells r) rfl (by rw [HSW.out]; exact hW) hx6 rfl) rfl ⟨by rw [HR.out], hB6⟩
set_option maxRecDepth 100000 in
set_option maxHeartbeats 4000000 in
theorem RefAddMod_zero (a b n : Nat) (w : World) (hn : n < 2 ^ 256) (hn0 : Hid (n = 0)) : Calls Try.prog 16 #[.agg (wcells a), .agg (wcells b), .agg (wcells n)] w fun e w' => e = .returned (.agg (wcells (0))) ∧ Below w.heap.size w w' := by
  have hW := wordTy
  have zW := zWordL
  have HSW := Lib.hid wcells_size
  have H1W := Lib.hid wcells_one
  have HZW := Lib.hid wcells_lit0
  have Q1 := Lib.hid (fun w => eq_word n 0 hn (by decide) w)
  rw [decide_eq_true hn0.out] at Q1
  go_enter Try.func16, Try.ntmps16
  have tk0_0 : True := trivial
  have tk0_1 : True := trivial
  have tk0_2 : True := trivial
  have tk0_3 : True := trivial
  have tk0_4 : True := trivial
  have tk0_5 : True := trivial
  have tk0_6 : True := trivial
  have hqQ1 := Q1.out
  rw [← HZW.out] at hqQ1
  go_wp2_with (first
    | ((with_reducible refine gd_box ?_); have _t := tk0_0; refine wpList_box_agg rfl _ (.tmp 0) rfl rfl ?_; clear tk0_0; intro w1 hx1 hb1 hl1; have hz1 := hx1.lt; have hs1 := hb1.size)
    | ((with_reducible refine gd_box ?_); have _t := tk0_1; refine wpList_box_agg rfl _ (.tmp 1) rfl rfl ?_; clear tk0_1; intro w2 hx2 hb2 hl2; have hz2 := hx2.lt; have hs2 := hb2.size)
    | ((with_reducible refine gd_box ?_); have _t := tk0_2; refine wpList_box_agg rfl _ (.tmp 2) rfl rfl ?_; clear tk0_2; intro w3 hx3 hb3 hl3; have hz3 := hx3.lt; have hs3 := hb3.size)
    | ((with_reducible refine gd_alloc ?_); have _t := tk0_3; refine wpList_alloc_blk rfl 23 rfl zW ?_; clear tk0_3; intro w4 hx4 hb4 hl4; have hz4 := hx4.lt; have hs4 := hb4.size)
    | ((with_reducible refine gd_load ?_); have _t := tk0_4; refine wpList_load_blk rfl 23 (.tmp 5) rfl (hx3.ext hb4) (by rw [HSW.out]; exact hW) rfl ?_; clear tk0_4)
    | ((with_reducible refine gd_load ?_); have _t := tk0_5; refine wpList_load_blk rfl 23 (.tmp 5) rfl (hx3.ext hb4) (by rw [HSW.out]; exact hW) rfl ?_; clear tk0_5)
    | ((with_reducible refine gd_store ?_); have _t := tk0_6; refine wpList_store_all rfl 23 (.tmp 6) (.tmp 12) rfl (wcells n) hx4 (by rw [HSW.out]; exact hW) (by rw [HSW.out]; exact HSW.out 0) (H1W.out _) (by rfl) (by rfl) ?_; clear tk0_6; intro w5 hx5 hg5; have hs5 := hg5.size)
    | fail)
  clear hqQ1
  have hy1_1 := ((((hx1.ext hb2).ext hb3).ext hb4).grown hg5 (by simp; omega))
  have hy1_2 := (((hx2.ext hb3).ext hb4).grown hg5 (by simp; omega))
  have hy1_3 := ((hx3.ext hb4).grown hg5 (by simp; omega))
  have hy1_4 := hx5
  have hB1_1 := hb1
  have hB1_2 := below_step hB1_1 hb2
  have hB1_3 := below_step hB1_2 hb3
  have hB1_4 := below_step hB1_3 hb4
  have hB1_5 := below_blk hB1_4 hB1_4.size hg5 (by first | omega | (simp; omega))
  clear hb1 hl1 hz1 hs1 hb2 hl2 hz2 hs2 hb3 hl3 hz3 hs3 hx4 hb4 hl4 hz4 hs4 hg5 hs5 hx1 hx2 hx3 hx5 hB1_1 hB1_2 hB1_3 hB1_4
  exact bodyPost_ret (results_blk1 (cs := wcells n) rfl (by rw [HSW.out]; exact hW) hy1_4 rfl) rfl ⟨by rw [hn0.out], hB1_5⟩
theorem RefAddMod_all (a b n : Nat) (w : World) (ha : a < 2 ^ 256) (hb : b < 2 ^ 256) (hn : n < 2 ^ 256) : Calls Try.prog 16 #[.agg (wcells a), .agg (wcells b), .agg (wcells n)] w fun e w' => e = .returned (.agg (wcells (modN (a + b) n))) ∧ Below w.heap.size w w' := by
  unfold modN
  rcases Nat.eq_zero_or_pos n with h | h
  · rw [if_pos h]
    exact RefAddMod_zero a b n w hn (Lib.hid h)
  · rw [if_neg (by omega)]
    exact RefAddMod_pos a b n w ha hb hn h
set_option maxRecDepth 100000 in
set_option maxHeartbeats 4000000 in
theorem RefMulMod_zero (a b n : Nat) (w : World) (hn : n < 2 ^ 256) (hn0 : Hid (n = 0)) : Calls Try.prog 18 #[.agg (wcells a), .agg (wcells b), .agg (wcells n)] w fun e w' => e = .returned (.agg (wcells (0))) ∧ Below w.heap.size w w' := by
  have hW := wordTy
  have zW := zWordL
  have HSW := Lib.hid wcells_size
  have H1W := Lib.hid wcells_one
  have HZW := Lib.hid wcells_lit0
  have Q1 := Lib.hid (fun w => eq_word n 0 hn (by decide) w)
  rw [decide_eq_true hn0.out] at Q1
  go_enter Try.func18, Try.ntmps18
  have tk0_0 : True := trivial
  have tk0_1 : True := trivial
  have tk0_2 : True := trivial
  have tk0_3 : True := trivial
  have tk0_4 : True := trivial
  have tk0_5 : True := trivial
  have tk0_6 : True := trivial
  have hqQ1 := Q1.out
  rw [← HZW.out] at hqQ1
  go_wp2_with (first
    | ((with_reducible refine gd_box ?_); have _t := tk0_0; refine wpList_box_agg rfl _ (.tmp 0) rfl rfl ?_; clear tk0_0; intro w1 hx1 hb1 hl1; have hz1 := hx1.lt; have hs1 := hb1.size)
    | ((with_reducible refine gd_box ?_); have _t := tk0_1; refine wpList_box_agg rfl _ (.tmp 1) rfl rfl ?_; clear tk0_1; intro w2 hx2 hb2 hl2; have hz2 := hx2.lt; have hs2 := hb2.size)
    | ((with_reducible refine gd_box ?_); have _t := tk0_2; refine wpList_box_agg rfl _ (.tmp 2) rfl rfl ?_; clear tk0_2; intro w3 hx3 hb3 hl3; have hz3 := hx3.lt; have hs3 := hb3.size)
    | ((with_reducible refine gd_alloc ?_); have _t := tk0_3; refine wpList_alloc_blk rfl 23 rfl zW ?_; clear tk0_3; intro w4 hx4 hb4 hl4; have hz4 := hx4.lt; have hs4 := hb4.size)
    | ((with_reducible refine gd_load ?_); have _t := tk0_4; refine wpList_load_blk rfl 23 (.tmp 5) rfl (hx3.ext hb4) (by rw [HSW.out]; exact hW) rfl ?_; clear tk0_4)
    | ((with_reducible refine gd_load ?_); have _t := tk0_5; refine wpList_load_blk rfl 23 (.tmp 5) rfl (hx3.ext hb4) (by rw [HSW.out]; exact hW) rfl ?_; clear tk0_5)
    | ((with_reducible refine gd_store ?_); have _t := tk0_6; refine wpList_store_all rfl 23 (.tmp 6) (.tmp 12) rfl (wcells n) hx4 (by rw [HSW.out]; exact hW) (by rw [HSW.out]; exact HSW.out 0) (H1W.out _) (by rfl) (by rfl) ?_; clear tk0_6; intro w5 hx5 hg5; have hs5 := hg5.size)
    | fail)
  clear hqQ1
  have hy1_1 := ((((hx1.ext hb2).ext hb3).ext hb4).grown hg5 (by simp; omega))
  have hy1_2 := (((hx2.ext hb3).ext hb4).grown hg5 (by simp; omega))
  have hy1_3 := ((hx3.ext hb4).grown hg5 (by simp; omega))
  have hy1_4 := hx5
  have hB1_1 := hb1
  have hB1_2 := below_step hB1_1 hb2
  have hB1_3 := below_step hB1_2 hb3
  have hB1_4 := below_step hB1_3 hb4
  have hB1_5 := below_blk hB1_4 hB1_4.size hg5 (by first | omega | (simp; omega))
  clear hb1 hl1 hz1 hs1 hb2 hl2 hz2 hs2 hb3 hl3 hz3 hs3 hx4 hb4 hl4 hz4 hs4 hg5 hs5 hx1 hx2 hx3 hx5 hB1_1 hB1_2 hB1_3 hB1_4
  exact bodyPost_ret (results_blk1 (cs := wcells n) rfl (by rw [HSW.out]; exact hW) hy1_4 rfl) rfl ⟨by rw [hn0.out], hB1_5⟩
theorem RefMulMod_all (a b n : Nat) (w : World) (ha : a < 2 ^ 256) (hb : b < 2 ^ 256) (hn : n < 2 ^ 256) : Calls Try.prog 18 #[.agg (wcells a), .agg (wcells b), .agg (wcells n)] w fun e w' => e = .returned (.agg (wcells (modN (a * b) n))) ∧ Below w.heap.size w w' := by
  unfold modN
  rcases Nat.eq_zero_or_pos n with h | h
  · rw [if_pos h]
    exact RefMulMod_zero a b n w hn (Lib.hid h)
  · rw [if_neg (by omega)]
    exact RefMulMod_pos a b n w ha hb hn h
end Go.Mun

namespace Go.Mun
open Go Go.RowKit Go.Proofs

theorem mulmod_bd {a b k m : Nat} (ha : a < 2 ^ k) (hb : b < 2 ^ k) (h : k + k = m) : a * b < 2 ^ m := by
  subst h
  rw [Nat.pow_add]
  exact Nat.mul_lt_mul'' ha hb

set_option maxRecDepth 100000 in
set_option maxHeartbeats 1000000 in
theorem MulMod_pos (a b n : Nat) (w : World) (ha : a < 2 ^ 256) (hb : b < 2 ^ 256) (hn : n < 2 ^ 256) (hn0 : n ≠ 0) : Calls Try.prog 17 #[.agg (wcells a), .agg (wcells b), .agg (wcells n)] w fun e w' => e = .returned (.agg (wcells (a * b % n))) ∧ Below w.heap.size w w' := by
  have hW := wordTy
  have hN := numTy
  have zW := zWordL
  have zN := zNumL
  have HSN := Lib.hid limbsV_size
  have H1N := Lib.hid limbsV_one
  have HSW := Lib.hid wcells_size
  have H1W := Lib.hid wcells_one
  have HFr := Lib.hid from_any
  have HWd := Lib.hid word_any
  have hEq := fun w => eq_num0 n hn w
  rw [decide_eq_false hn0] at hEq
  have hA8 := arrTy8
  have z8 : (Try.prog.info? 54).bind (·.zero) = some (.agg (tab .u64 8 fun _ => 0)) := by kernel_rfl
  have HN8 := Lib.hid (mulmod_bd (m := 64 * 8) ha hb rfl)
  have HPr := Lib.hid (fun w => product_any a b w ha hb)
  have HLT := Lib.hid (show a * b % n < 2 ^ 256 from Nat.lt_trans (Nat.mod_lt _ (Nat.pos_of_ne_zero hn0)) hn)
  have CDiv := Lib.hid (fun (w : World) (g : Nat) (hx : Blk w g 54 (tab .u64 8 (limb (a * b)))) => divide_any (a * b) n 8 8 ⟨g, 0, none⟩ w (Nat.pos_of_ne_zero hn0) hn (by decide) (by decide) HN8.out hx.rd)
  have HT8 := Lib.hid (fun k => (tab_size : (tab .u64 8 (limb k)).size = 8))
  generalize a * b / n % 2 ^ 256 = q at *
  generalize a * b % n = r at *
  clear hn0
  go_enter Try.func17, Try.ntmps17
  have tokA : True := trivial
  have tokB : True := trivial
  have tokC : True := trivial
  go_upto_region 4 with (first
    | ((with_reducible refine gd_box ?_); have _t := tokA; refine wpList_box_agg rfl _ (.tmp 0) rfl rfl ?_; clear tokA; intro w1 hx1 hb1 hl1)
    | ((with_reducible refine gd_box ?_); have _t := tokB; refine wpList_box_agg rfl _ (.tmp 1) rfl rfl ?_; clear tokB; intro w2 hx2 hb2 hl2)
    | ((with_reducible refine gd_box ?_); refine wpList_box_agg rfl _ (.tmp 2) rfl rfl ?_; intro w3 hx3 hb3 hl3; have hx13 := (hx1.ext hb2).ext hb3; have hx23 := hx2.ext hb3; have hB3 := below_step (below_step hb1 hb2) hb3)
    | ((with_reducible refine gd_alloc ?_); have _t := tokC; refine wpList_alloc_blk rfl 23 rfl zW ?_; clear tokC; intro w4 hx4 hb4 hl4; replace hx4 : Blk w4 w3.heap.size 23 (wcells 0) := hx4; have hx34 := hx3.ext hb4; have hx14 := hx13.ext hb4; have hx24 := hx23.ext hb4; have hB4 := below_step hB3 hb4)
    | ((with_reducible refine gd_load ?_); refine wpList_load_blk rfl 23 (.tmp 5) rfl hx34 (by rw [HSW.out]; exact hW) rfl ?_)
    | (go_at_call 47; refine (HFr.out n _ hn).mono ?_; rintro e w5 ⟨rfl, hb5⟩; have hx15 := hx14.ext hb5; have hx25 := hx24.ext hb5; have hx45 := hx4.ext hb5; have hB5 := below_step hB4 hb5)
    | ((with_reducible refine gd_alloc ?_); refine wpList_alloc_blk rfl 39 rfl zN ?_; intro w6 hx6 hb6 hl6; replace hx6 : Blk w6 w5.heap.size 39 (limbsV 0) := hx6; have hx16 := hx15.ext hb6; have hx26 := hx25.ext hb6; have hx46 := hx45.ext hb6; have hB6 := below_step hB5 hb6)
    | ((with_reducible refine gd_store ?_); refine wpList_store_all rfl 39 (.tmp 7) (.tmp 12) rfl (limbsV n) hx6 (by rw [HSN.out]; exact hN) (by rw [HSN.out, HSN.out]) (H1N.out _) (by rfl) (by rfl) ?_; intro w7 hx7 hg7; have hb7 := below_blk hb6 hb6.size hg7 (Nat.le_refl _); have hx17 := hx15.ext hb7; have hx27 := hx25.ext hb7; have hx47 := hx45.ext hb7; have hB7 := below_step hB5 hb7)
    | ((with_reducible refine gd_load ?_); refine wpList_load_blk rfl 39 (.tmp 7) rfl hx7 (by rw [HSN.out]; exact hN) rfl ?_)
    | fail)
  have hg1' := hx17.lt
  have hg2' := hx27.lt
  have hg4' := hx47.lt
  have hg7' := hx7.lt
  refine wp_region_made (w := w7) (B := w.heap.size) (wB := w) [.val (.agg (wcells a)), .val (.agg (limbsV a)), .val (.agg (wcells b)), .val (.agg (limbsV b)), .val (.agg (tab .u64 8 (limb (a * b)))), .new 54 ((tab .u64 8 fun _ => 0)) ((tab .u64 8 (limb (a * b)))), .putN 5] (by kernel_rfl) (by kernel_rfl) (by kernel_rfl) rfl (by kernel_rfl) rfl hB7.size hB7 (by exact List.nodup_nil) (by intro g hg; exact nomatch hg) trivial ?_ ?_
  · refine ⟨?_, ?_, ?_, ?_, ?_, ?_, ?_, trivial⟩
    · intro G wx fr hway _ hs hdef hsz
      have s3 : fr.tmps[3]? = some (.pointer (some ⟨w.heap.size, 0, none⟩)) := hs.1
      clear hs
      refine ⟨?_⟩
      refine wpList_load_blk rfl 23 (.tmp 3) rfl (way_blk hway hx17 (by first | exact hx17.lt | omega) (by simp [heldBy, Knd.blockOf])) (by rw [HSW.out]; exact hW) (by simp [Act.eval, s3]) ?_
      refine wpList_nil ?_
      exact kp_val hdef hsz (Below.refl _ _)
    · intro G wx fr hway _ hs hdef hsz
      have s17 : fr.tmps[17]? = some (.agg (wcells a)) := hs.1
      clear hs
      refine ⟨?_⟩
      go_wp2_with fail
      refine (HFr.out a wx ha).mono ?_
      rintro e w2 ⟨rfl, hb2⟩
      go_wp2
      exact kp_post hsz hb2
    · intro G wx fr hway _ hs hdef hsz
      have s4 : fr.tmps[4]? = some (.pointer (some ⟨w1.heap.size, 0, none⟩)) := hs.1
      clear hs
      refine ⟨?_⟩
      refine wpList_load_blk rfl 23 (.tmp 4) rfl (way_blk hway hx27 (by first | exact hx27.lt | omega) (by simp [heldBy, Knd.blockOf])) (by rw [HSW.out]; exact hW) (by simp [Act.eval, s4]) ?_
      refine wpList_nil ?_
      exact kp_val hdef hsz (Below.refl _ _)
    · intro G wx fr hway _ hs hdef hsz
      have s19 : fr.tmps[19]? = some (.agg (wcells b)) := hs.1
      clear hs
      refine ⟨?_⟩
      go_wp2_with fail
      refine (HFr.out b wx hb).mono ?_
      rintro e w2 ⟨rfl, hb2⟩
      go_wp2
      exact kp_post hsz hb2
    · intro G wx fr hway _ hs hdef hsz
      have s18 : fr.tmps[18]? = some (.agg (limbsV a)) := hs.1
      have s20 : fr.tmps[20]? = some (.agg (limbsV b)) := hs.2.1
      clear hs
      refine ⟨?_⟩
      go_wp2_with fail
      refine (HPr.out wx).mono ?_
      rintro e w2 ⟨rfl, hb2⟩
      go_wp2
      exact kp_post hsz hb2
    · intro G wx fr hway _ hs hdef hsz
      clear hs
      refine ⟨?_⟩
      refine wpList_alloc_blk rfl 54 rfl z8 ?_
      intro wy hxy hby _
      refine wpList_nil ?_
      exact kp_new hdef hsz hby hxy
    · intro G wx fr hway hpre hs hdef hsz
      have s8 : fr.tmps[8]? = some (.pointer (some ⟨G 5, 0, none⟩)) := hs.1
      have s21 : fr.tmps[21]? = some (.agg (tab .u64 8 (limb (a * b)))) := hs.2.1
      clear hs
      have hpre' : Blk wx (G 5) 54 ((tab .u64 8 fun _ => 0)) := hpre
      refine ⟨?_⟩
      refine wpList_store_all rfl 54 (.tmp 8) (.tmp 21) rfl ((tab .u64 8 (limb (a * b)))) hpre' (by rw [HT8.out]; exact hA8) (by simp [tab]) tab_one (by simp [Act.eval, s8]) (by simp [Act.eval, s21]) ?_
      intro wy hxy hgy
      refine wpList_nil ?_
      exact ⟨rfl, hdef, rfl, hxy, hgy⟩
  · intro G V wz hval hway hmade hap
    replace hval : V 0 = .agg (wcells a) ∧ V 1 = .agg (limbsV a) ∧ V 2 = .agg (wcells b) ∧ V 3 = .agg (limbsV b) ∧ V 4 = .agg (tab .u64 8 (limb (a * b))) ∧ V 5 = .pointer (some ⟨G 5, 0, none⟩) ∧ V 6 = undef ∧ True := hval
    replace hmade : (w7.heap.size ≤ G 5 ∧ G 5 < wz.heap.size ∧ Blk wz (G 5) 54 ((tab .u64 8 (limb (a * b))))) ∧ True := hmade
    obtain ⟨e0, e1, e2, e3, e4, e5, e6, -⟩ := hval
    obtain ⟨⟨hg5, hl5, hx_5⟩, -⟩ := hmade
    clear hap
    simp only [fill, Act.put, e0, e1, e2, e3, e4, e5]
    clear e0 e1 e2 e3 e4 e5 e6
    simp only [Exit.then]
    go_simp
    generalize G 5 = g5 at *
    clear G V
    replace hx7 := way_blk hway hx7 hg7' (by simp [heldBy, Knd.blockOf])
    replace hx47 := way_blk hway hx47 hg4' (by simp [heldBy, Knd.blockOf])
    have hBz := hway.2.2
    have hszz := hway.1
    clear hway
    go_upto_region 5 with (fail)
    refine wp_region_made (w := wz) (B := w.heap.size) (wB := w) [.val (.slice (some ⟨g5, 0, none⟩) 8 8), .val (.agg (limbsV n)), .val (.tuple #[.agg (limbsV q), .agg (limbsV r)]), .val (.tuple #[.agg (limbsV q), .agg (limbsV r)]), .val (.agg (limbsV q)), .val (.agg (limbsV r)), .new 39 (limbsV 0) (limbsV q), .new 39 (limbsV 0) (limbsV r), .putN 6, .putN 7] (by kernel_rfl) (by kernel_rfl) (by kernel_rfl) rfl (by kernel_rfl) rfl hBz.size hBz (by exact List.nodup_nil) (by intro g hg; exact nomatch hg) trivial ?_ ?_
    · refine ⟨?_, ?_, ?_, ?_, ?_, ?_, ?_, ?_, ?_, ?_, trivial⟩
      · intro G wx fr hway _ hs hdef hsz
        have s8 : fr.tmps[8]? = some (.pointer (some ⟨g5, 0, none⟩)) := hs.1
        clear hs
        refine ⟨?_⟩
        go_wp2
        exact kp_post hsz (Below.refl _ _)
      · intro G wx fr hway _ hs hdef hsz
        have s7 : fr.tmps[7]? = some (.pointer (some ⟨w5.heap.size, 0, none⟩)) := hs.1
        clear hs
        refine ⟨?_⟩
        refine wpList_load_blk rfl 39 (.tmp 7) rfl (way_blk hway hx7 (by first | exact hx7.lt | omega) (by simp [heldBy, Knd.blockOf])) (by rw [HSN.out]; exact hN) (by simp [Act.eval, s7]) ?_
        refine wpList_nil ?_
        exact kp_val hdef hsz (Below.refl _ _)
      · intro G wx fr hway _ hs hdef hsz
        have s23 : fr.tmps[23]? = some (.slice (some ⟨g5, 0, none⟩) 8 8) := hs.1
        have s24 : fr.tmps[24]? = some (.agg (limbsV n)) := hs.2.1
        clear hs
        refine ⟨?_⟩
        go_wp2_with fail
        refine (CDiv.out wx g5 ((way_blk hway hx_5 hx_5.lt (by simp [heldBy, Knd.blockOf])))).mono ?_
        rintro e w2 ⟨rfl, hb2⟩
        go_wp2
        exact kp_post hsz hb2
      · intro G wx fr hway _ hs hdef hsz
        have s25 : fr.tmps[25]? = some (.tuple #[.agg (limbsV q), .agg (limbsV r)]) := hs.1
        clear hs
        refine ⟨?_⟩
        go_wp2
        exact kp_post hsz (Below.refl _ _)
      · intro G wx fr hway _ hs hdef hsz
        have s22 : fr.tmps[22]? = some (.tuple #[.agg (limbsV q), .agg (limbsV r)]) := hs.1
        clear hs
        refine ⟨?_⟩
        go_wp2
        exact kp_post hsz (Below.refl _ _)
      · intro G wx fr hway _ hs hdef hsz
        have s22 : fr.tmps[22]? = some (.tuple #[.agg (limbsV q), .agg (limbsV r)]) := hs.1
        clear hs
        refine ⟨?_⟩
        go_wp2
        exact kp_post hsz (Below.refl _ _)
      · intro G wx fr hway _ hs hdef hsz
        clear hs
        refine ⟨?_⟩
        refine wpList_alloc_blk rfl 39 rfl zN ?_
        intro wy hxy hby _
        refine wpList_nil ?_
        exact kp_new hdef hsz hby hxy
      · intro G wx fr hway _ hs hdef hsz
        clear hs
        refine ⟨?_⟩
        refine wpList_alloc_blk rfl 39 rfl zN ?_
        intro wy hxy hby _
        refine wpList_nil ?_
        exact kp_new hdef hsz hby hxy
      · intro G wx fr hway hpre hs hdef hsz
        have s9 : fr.tmps[9]? = some (.pointer (some ⟨G 6, 0, none⟩)) := hs.1
        have s26 : fr.tmps[26]? = some (.agg (limbsV q)) := hs.2.1
        clear hs
        have hpre' : Blk wx (G 6) 39 (limbsV 0) := hpre
        refine ⟨?_⟩
        refine wpList_store_all rfl 39 (.tmp 9) (.tmp 26) rfl (limbsV q) hpre' (by rw [HSN.out]; exact hN) (by rw [HSN.out, HSN.out]) (H1N.out _) (by simp [Act.eval, s9]) (by simp [Act.eval, s26]) ?_
        intro wy hxy hgy
        refine wpList_nil ?_
        exact ⟨rfl, hdef, rfl, hxy, hgy⟩
      · intro G wx fr hway hpre hs hdef hsz
        have s10 : fr.tmps[10]? = some (.pointer (some ⟨G 7, 0, none⟩)) := hs.1
        have s27 : fr.tmps[27]? = some (.agg (limbsV r)) := hs.2.1
        clear hs
        have hpre' : Blk wx (G 7) 39 (limbsV 0) := hpre
        refine ⟨?_⟩
        refine wpList_store_all rfl 39 (.tmp 10) (.tmp 27) rfl (limbsV r) hpre' (by rw [HSN.out]; exact hN) (by rw [HSN.out, HSN.out]) (H1N.out _) (by simp [Act.eval, s10]) (by simp [Act.eval, s27]) ?_
        intro wy hxy hgy
        refine wpList_nil ?_
        exact ⟨rfl, hdef, rfl, hxy, hgy⟩
    · intro G V wy hval hway hmade hap
      replace hval : V 0 = .slice (some ⟨g5, 0, none⟩) 8 8 ∧ V 1 = .agg (limbsV n) ∧ V 2 = .tuple #[.agg (limbsV q), .agg (limbsV r)] ∧ V 3 = .tuple #[.agg (limbsV q), .agg (limbsV r)] ∧ V 4 = .agg (limbsV q) ∧ V 5 = .agg (limbsV r) ∧ V 6 = .pointer (some ⟨G 6, 0, none⟩) ∧ V 7 = .pointer (some ⟨G 7, 0, none⟩) ∧ V 8 = undef ∧ V 9 = undef ∧ True := hval
      replace hmade : (wz.heap.size ≤ G 6 ∧ G 6 < wy.heap.size ∧ Blk wy (G 6) 39 (limbsV q)) ∧ (wz.heap.size ≤ G 7 ∧ G 7 < wy.heap.size ∧ Blk wy (G 7) 39 (limbsV r)) ∧ True := hmade
      obtain ⟨e0, e1, e2, e3, e4, e5, e6, e7, e8, e9, -⟩ := hval
      obtain ⟨⟨hg6, hl6, hx_6⟩, ⟨hg7, hl7, hx_7⟩, -⟩ := hmade
      have ha6_7 : G 6 ≠ G 7 := hap 6 7 _ _ _ _ _ _ rfl rfl (by decide)
      clear hap
      simp only [fill, Act.put, e0, e1, e2, e3, e4, e5, e6, e7]
      clear e0 e1 e2 e3 e4 e5 e6 e7 e8 e9
      simp only [Exit.then]
      go_simp
      generalize G 6 = g6 at *
      generalize G 7 = g7 at *
      clear G V
      replace hx47 := way_blk hway hx47 (Nat.lt_of_lt_of_le hg4' hszz) (by simp [heldBy, Knd.blockOf])
      have hBy := hway.2.2
      have hszy := hway.1
      clear hway
      go_wp2_with (first
        | ((with_reducible refine gd_load ?_); refine wpList_load_blk rfl 39 (.tmp 10) rfl hx_7 (by rw [HSN.out]; exact hN) rfl ?_)
        | (go_at_call 46; refine (HWd.out r _ HLT.out).mono ?_; rintro e w6 ⟨rfl, hb6⟩)
        | ((with_reducible refine gd_store ?_); refine wpList_store_all rfl 23 (.tmp 6) (.tmp 29) rfl (wcells r) (hx47.ext hb6) (by rw [HSW.out]; exact hW) (by rw [HSW.out, HSW.out]) (H1W.out _) (by rfl) (by rfl) ?_; intro w9 hx9 hg9)
        | fail)
      have hB6 := below_step hBy hb6
      have hB9 := below_blk hB6 hB6.size hg9 (by omega)
      exact bodyPost_ret (results_blk1 (cs := wcells r) rfl (by rw [HSW.out]; exact hW) hx9 rfl) rfl ⟨rfl, hB9⟩
    

set_option maxRecDepth 100000 in
set_option maxHeartbeats 1000000 in
theorem MulMod_zero (a b n : Nat) (w : World)  (hn : n < 2 ^ 256) (hn0 : n = 0) : Calls Try.prog 17 #[.agg (wcells a), .agg (wcells b), .agg (wcells n)] w fun e w' => e = .returned (.agg (wcells 0)) ∧ Below w.heap.size w w' := by
  have hW := wordTy
  have hN := numTy
  have zW := zWordL
  have zN := zNumL
  have HSN := Lib.hid limbsV_size
  have H1N := Lib.hid limbsV_one
  have HSW := Lib.hid wcells_size
  have H1W := Lib.hid wcells_one
  have HFr := Lib.hid from_any
  have HWd := Lib.hid word_any
  have hEq := fun w => eq_num0 n hn w
  rw [decide_eq_true hn0] at hEq
  clear hn0
  go_enter Try.func17, Try.ntmps17
  have tokA : True := trivial
  have tokB : True := trivial
  have tokC : True := trivial
  go_wp2_with (first
    | ((with_reducible refine gd_box ?_); have _t := tokA; refine wpList_box_agg rfl _ (.tmp 0) rfl rfl ?_; clear tokA; intro w1 hx1 hb1 hl1)
    | ((with_reducible refine gd_box ?_); have _t := tokB; refine wpList_box_agg rfl _ (.tmp 1) rfl rfl ?_; clear tokB; intro w2 hx2 hb2 hl2)
    | ((with_reducible refine gd_box ?_); refine wpList_box_agg rfl _ (.tmp 2) rfl rfl ?_; intro w3 hx3 hb3 hl3; have hx13 := (hx1.ext hb2).ext hb3; have hx23 := hx2.ext hb3; have hB3 := below_step (below_step hb1 hb2) hb3)
    | ((with_reducible refine gd_alloc ?_); have _t := tokC; refine wpList_alloc_blk rfl 23 rfl zW ?_; clear tokC; intro w4 hx4 hb4 hl4; replace hx4 : Blk w4 w3.heap.size 23 (wcells 0) := hx4; have hx34 := hx3.ext hb4; have hx14 := hx13.ext hb4; have hx24 := hx23.ext hb4; have hB4 := below_step hB3 hb4)
    | ((with_reducible refine gd_load ?_); refine wpList_load_blk rfl 23 (.tmp 5) rfl hx34 (by rw [HSW.out]; exact hW) rfl ?_)
    | (go_at_call 47; refine (HFr.out n _ hn).mono ?_; rintro e w5 ⟨rfl, hb5⟩; have hx15 := hx14.ext hb5; have hx25 := hx24.ext hb5; have hx45 := hx4.ext hb5; have hB5 := below_step hB4 hb5)
    | ((with_reducible refine gd_alloc ?_); refine wpList_alloc_blk rfl 39 rfl zN ?_; intro w6 hx6 hb6 hl6; replace hx6 : Blk w6 w5.heap.size 39 (limbsV 0) := hx6; have hx16 := hx15.ext hb6; have hx26 := hx25.ext hb6; have hx46 := hx45.ext hb6; have hB6 := below_step hB5 hb6)
    | ((with_reducible refine gd_store ?_); refine wpList_store_all rfl 39 (.tmp 7) (.tmp 12) rfl (limbsV n) hx6 (by rw [HSN.out]; exact hN) (by rw [HSN.out, HSN.out]) (H1N.out _) (by rfl) (by rfl) ?_; intro w7 hx7 hg7; have hb7 := below_blk hb6 hb6.size hg7 (Nat.le_refl _); have hx17 := hx15.ext hb7; have hx27 := hx25.ext hb7; have hx47 := hx45.ext hb7; have hB7 := below_step hB5 hb7)
    | ((with_reducible refine gd_load ?_); refine wpList_load_blk rfl 39 (.tmp 7) rfl hx7 (by rw [HSN.out]; exact hN) rfl ?_)
    | ((with_reducible refine gd_store ?_); refine wpList_store_all rfl 23 (.tmp 6) (.tmp 16) rfl (wcells 0) hx47 (by rw [HSW.out]; exact hW) (by rw [HSW.out]) (H1W.out _) (by rfl) (by rfl) ?_; intro w9 hx9 hg9)
    | fail)
  have hB9 := below_blk hB7 hB7.size hg9 (by have := hB3.size; omega)
  exact bodyPost_ret (results_blk1 (cs := wcells 0) rfl (by rw [HSW.out]; exact hW) hx9 rfl) rfl ⟨rfl, hB9⟩
set_option maxRecDepth 100000 in
set_option maxHeartbeats 1000000 in
theorem AddMod_zero (a b n : Nat) (w : World)  (hn : n < 2 ^ 256) (hn0 : n = 0) : Calls Try.prog 15 #[.agg (wcells a), .agg (wcells b), .agg (wcells n)] w fun e w' => e = .returned (.agg (wcells 0)) ∧ Below w.heap.size w w' := by
  have hW := wordTy
  have hN := numTy
  have zW := zWordL
  have zN := zNumL
  have HSN := Lib.hid limbsV_size
  have H1N := Lib.hid limbsV_one
  have HSW := Lib.hid wcells_size
  have H1W := Lib.hid wcells_one
  have HFr := Lib.hid from_any
  have HWd := Lib.hid word_any
  have hEq := fun w => eq_num0 n hn w
  rw [decide_eq_true hn0] at hEq
  clear hn0
  go_enter Try.func15, Try.ntmps15
  have tokA : True := trivial
  have tokB : True := trivial
  have tokC : True := trivial
  go_wp2_with (first
    | ((with_reducible refine gd_box ?_); have _t := tokA; refine wpList_box_agg rfl _ (.tmp 0) rfl rfl ?_; clear tokA; intro w1 hx1 hb1 hl1)
    | ((with_reducible refine gd_box ?_); have _t := tokB; refine wpList_box_agg rfl _ (.tmp 1) rfl rfl ?_; clear tokB; intro w2 hx2 hb2 hl2)
    | ((with_reducible refine gd_box ?_); refine wpList_box_agg rfl _ (.tmp 2) rfl rfl ?_; intro w3 hx3 hb3 hl3; have hx13 := (hx1.ext hb2).ext hb3; have hx23 := hx2.ext hb3; have hB3 := below_step (below_step hb1 hb2) hb3)
    | ((with_reducible refine gd_alloc ?_); have _t := tokC; refine wpList_alloc_blk rfl 23 rfl zW ?_; clear tokC; intro w4 hx4 hb4 hl4; replace hx4 : Blk w4 w3.heap.size 23 (wcells 0) := hx4; have hx34 := hx3.ext hb4; have hx14 := hx13.ext hb4; have hx24 := hx23.ext hb4; have hB4 := below_step hB3 hb4)
    | ((with_reducible refine gd_load ?_); refine wpList_load_blk rfl 23 (.tmp 5) rfl hx34 (by rw [HSW.out]; exact hW) rfl ?_)
    | (go_at_call 47; refine (HFr.out n _ hn).mono ?_; rintro e w5 ⟨rfl, hb5⟩; have hx15 := hx14.ext hb5; have hx25 := hx24.ext hb5; have hx45 := hx4.ext hb5; have hB5 := below_step hB4 hb5)
    | ((with_reducible refine gd_alloc ?_); refine wpList_alloc_blk rfl 39 rfl zN ?_; intro w6 hx6 hb6 hl6; replace hx6 : Blk w6 w5.heap.size 39 (limbsV 0) := hx6; have hx16 := hx15.ext hb6; have hx26 := hx25.ext hb6; have hx46 := hx45.ext hb6; have hB6 := below_step hB5 hb6)
    | ((with_reducible refine gd_store ?_); refine wpList_store_all rfl 39 (.tmp 7) (.tmp 13) rfl (limbsV n) hx6 (by rw [HSN.out]; exact hN) (by rw [HSN.out, HSN.out]) (H1N.out _) (by rfl) (by rfl) ?_; intro w7 hx7 hg7; have hb7 := below_blk hb6 hb6.size hg7 (Nat.le_refl _); have hx17 := hx15.ext hb7; have hx27 := hx25.ext hb7; have hx47 := hx45.ext hb7; have hB7 := below_step hB5 hb7)
    | ((with_reducible refine gd_load ?_); refine wpList_load_blk rfl 39 (.tmp 7) rfl hx7 (by rw [HSN.out]; exact hN) rfl ?_)
    | ((with_reducible refine gd_store ?_); refine wpList_store_all rfl 23 (.tmp 6) (.tmp 17) rfl (wcells 0) hx47 (by rw [HSW.out]; exact hW) (by rw [HSW.out]) (H1W.out _) (by rfl) (by rfl) ?_; intro w9 hx9 hg9)
    | fail)
  have hB9 := below_blk hB7 hB7.size hg9 (by have := hB3.size; omega)
  exact bodyPost_ret (results_blk1 (cs := wcells 0) rfl (by rw [HSW.out]; exact hW) hx9 rfl) rfl ⟨rfl, hB9⟩
end Go.Mun

namespace Go.Mun
open Go Go.RowKit

section
variable {P : Program} {ops : Array Oper}

def upd (V : Nat → Value) (i : Nat) (x : Value) : Nat → Value := fun k => if k = i then x else V k
def updL (L : Nat → Bool) (i : Nat) : Nat → Bool := fun k => if k = i then true else L k
theorem upd_same {V : Nat → Value} {i : Nat} {x : Value} : upd V i x i = x := if_pos rfl
theorem upd_ne {V : Nat → Value} {i j : Nat} {x : Value} (h : j ≠ i) : upd V i x j = V j := if_neg h
theorem updL_same {L : Nat → Bool} {i : Nat} : updL L i i = true := if_pos rfl
theorem updL_ne {L : Nat → Bool} {i j : Nat} (h : j ≠ i) : updL L i j = L j := if_neg h

theorem updL_up {L : Nat → Bool} {i j : Nat} (h : L j = true) : updL L i j = true := by unfold updL; split <;> first | rfl | exact h

/-- The word in which one operation is walked. -/
def PhPost (Rel : World → World → Prop) (S : Nat → Value → World → Prop) (J : (Nat → Bool) → (Nat → Value) → World → Prop) (L : Nat → Bool) (V : Nat → Value) (i : Nat) (d : Option Tmp) (w : World) : Exit → Act → World → Prop :=
  fun e a' w' => OpPost Rel S i d w e a' w' ∧ J (updL L i) (upd V i ((d.map fun d => a'.tmps.getD d undef).getD undef)) w'

/-- Does j wait for i? -/
def waitsB (ops : Array Oper) (j i : Nat) : Bool := match ops[j]? with
  | some o => o.after.any fun e => Region.binds .any e && e.on == i
  | none => false
theorem waitsB_spec {ops : Array Oper} {j i : Nat} (h : waitsB ops j i = true) : ∃ o, ops[j]? = some o ∧ ∃ e ∈ o.after, Region.binds .any e = true ∧ e.on = i := by
  unfold waitsB at h
  split at h
  · rename_i o ho
    obtain ⟨e, he, hb⟩ := Array.any_eq_true'.1 h
    simp only [Bool.and_eq_true, beq_iff_eq] at hb
    exact ⟨o, ho, e, he, hb.1, hb.2⟩
  · cases h
/-- what is listed waits for nothing that is not -/
def ClosedL (ops : Array Oper) (L : Nat → Bool) : Prop := ∀ j i, waitsB ops j i = true → L j = true → L i = true

def PhStep (P : Program) (ops : Array Oper) (Rel : World → World → Prop) (S : Nat → Value → World → Prop) (J : (Nat → Bool) → (Nat → Value) → World → Prop) (w0 : World) (F : (Nat → Value) → Act) : List Oper → Nat → Prop
  | [], _ => True
  | o :: l, k => (∀ (L : Nat → Bool) (V : Nat → Value) (w : World), Rel w0 w → J L V w → L k = false → (∀ i, waitsB ops k i = true → L i = true) → ClosedL ops L → DepFacts S V w o.after.toList → OneStep P ops (PhPost Rel S J L V k o.dst w) o (F V) w) ∧ PhStep P ops Rel S J w0 F l (k + 1)
theorem phStep_get {Rel : World → World → Prop} {S : Nat → Value → World → Prop} {J : (Nat → Bool) → (Nat → Value) → World → Prop} {w0 : World} {F : (Nat → Value) → Act} : ∀ {l : List Oper} {k : Nat}, PhStep P ops Rel S J w0 F l k →
    ∀ i o, l[i]? = some o → ∀ (L : Nat → Bool) (V : Nat → Value) (w : World), Rel w0 w → J L V w → L (k + i) = false → (∀ j, waitsB ops (k + i) j = true → L j = true) → ClosedL ops L → DepFacts S V w o.after.toList → OneStep P ops (PhPost Rel S J L V (k + i) o.dst w) o (F V) w
  | [], _, _, i, o, h => by simp at h
  | o :: l, k, h, i, o', hi => by
    cases i with
    | zero =>
      simp only [List.getElem?_cons_zero, Option.some.injEq] at hi
      subst hi
      exact h.1
    | succ i =>
      have := phStep_get h.2 i o' (by simpa using hi)
      rw [show k + 1 + i = k + (i + 1) from by omega] at this
      exact this

theorem wp_region_phase {id : Nat} {l : List Oper} {Q : Exit → Act → World → Prop} {a : Act} {w : World} (hm : P.follows .mixedOrders = true) (hB : regionB l = true)
    (hin : (l.all fun o => match o.dst with | some d => decide (d < a.tmps.size) | none => true) = true)
    (Rel : World → World → Prop) (hrefl : ∀ w, Rel w w) (htrans : ∀ x y z, Rel x y → Rel y z → Rel x z)
    (S : Nat → Value → World → Prop) (hS : ∀ i v x y, Rel x y → S i v x → S i v y)
    (J : (Nat → Bool) → (Nat → Value) → World → Prop) (hJ0 : J (fun _ => false) (fun _ => undef) w.drew)
    (hstep : PhStep P l.toArray Rel S J w.drew (fun V => fill l 0 V a) l 0)
    (hend : ∀ (L : Nat → Bool) (V : Nat → Value) (w' : World), (∀ i, i < l.length → L i = true) → Rel w.drew w' → SFacts S V w' l 0 → J L V w' → Q .normal (fill l 0 V a) w') : (Code.region id l.toArray true).wp P Q a w := by
  simp only [regionB, Bool.and_eq_true] at hB
  obtain ⟨⟨hB1, hB2⟩, hB3⟩ := hB
  have hnd : (l.filterMap (·.dst)).Nodup := of_decide_eq_true hB1
  have hun := dsts_unique l hnd
  have hdeps : ∀ (i : Nat) (o : Oper), l[i]? = some o → (∀ e ∈ o.after, Region.binds .any e = true → e.on < i) ∧
      ∀ (j : Nat) (p : Oper) (t : Tmp), l[j]? = some p → p.dst = some t → t ∈ o.looksAt l.toArray → ∃ e ∈ o.after, Region.binds .any e = true ∧ e.on = j := by
    intro i o hi
    have hmem : (o, i) ∈ l.zipIdx := List.mk_mem_zipIdx_iff_getElem?.2 hi
    have h1 := List.all_eq_true.1 hB2 _ hmem
    simp only [Bool.and_eq_true] at h1
    refine ⟨fun e he hb => ?_, fun j p t hj hp ht => ?_⟩
    · have := List.all_eq_true.1 h1.1 e (by simpa using he)
      simpa [hb] using this
    · have hmem' : (p, j) ∈ l.zipIdx := List.mk_mem_zipIdx_iff_getElem?.2 hj
      have := List.all_eq_true.1 h1.2 _ hmem'
      simp only [hp] at this
      rw [Bool.or_eq_true] at this
      rcases this with h | h
      · have hc : (o.looksAt l.toArray).contains t = true := by simpa using ht
        rw [hc] at h
        cases h
      · obtain ⟨e, he, hb⟩ := List.any_eq_true.1 h
        simp only [Bool.and_eq_true, beq_iff_eq] at hb
        exact ⟨e, by simpa using he, hb.1, hb.2⟩
  have hlt : ∀ (i : Nat) (o : Oper) (t : Tmp), l[i]? = some o → o.dst = some t → t < a.tmps.size := by
    intro i o t hi ho
    have := List.all_eq_true.1 hin o (List.mem_of_getElem? hi)
    simpa [ho] using this
  have hops : ∀ i : Nat, l.toArray[i]? = l[i]? := fun i => by simp
  refine wp_region_any hm ?_
  let I : Array Bool → Act → World → Prop := fun listed a' w' => ∃ V : Nat → Value, a' = fillP l 0 (fun i => listed.getD i false) V a ∧ Rel w.drew w' ∧
    (∀ i, i < l.length → listed.getD i false = true → S i (V i) w') ∧ J (fun i => listed.getD i false) V w' ∧ ClosedL l.toArray (fun i => listed.getD i false)
  refine wpAny_inv I (fun i o hi => (hdeps i o (by rw [← hops]; exact hi)).1) ?_ ?_ _ _ _ _ (by simp) ?_ ?_
  · intro listed a' w' i hsz hr hI
    obtain ⟨V, rfl, hrel, hSV, hJV, hcl⟩ := hI
    obtain ⟨hun', o, ho, hall⟩ := mem_ready.1 hr
    have ho' : l[i]? = some o := by rw [← hops]; exact ho
    have hil : i < l.length := (List.getElem?_eq_some_iff.1 ho').1
    have hil' : i < listed.size := by rw [hsz]; simpa using hil
    have hlf : listed.getD i false = false := by
      simp only [Array.getD, hil', dif_pos] at hun' ⊢
      exact hun'
    -- slots that it looks at: as in the full frame
    have hsame : ∀ t, t ∈ o.looksAt l.toArray → (fillP l 0 (fun i => listed.getD i false) V a).tmps[t]? = (fill l 0 V a).tmps[t]? := by
      intro t ht
      rw [fill_eq]
      refine fillP_congr l t 0 _ _ V V a a rfl rfl fun j p hj hp => ?_
      obtain ⟨e, he, hb, hej⟩ := (hdeps i o ho').2 j p t hj hp ht
      have := hall e he hb
      rw [hej] at this
      simp only [Nat.zero_add]
      exact ⟨this, trivial⟩
    have hev : ∀ x ∈ o.op.operands, (fillP l 0 (fun i => listed.getD i false) V a).eval x = (fill l 0 V a).eval x := by
      intro x hx
      cases x with
      | tmp t =>
        have := hsame t (by
          unfold Oper.looksAt
          exact List.mem_append.2 (.inl (List.mem_filterMap.2 ⟨.tmp t, by simpa using hx, rfl⟩)))
        show (fillP l 0 (fun i => listed.getD i false) V a).tmps.getD t undef = (fill l 0 V a).tmps.getD t undef
        rw [Array.getD_eq_getD_getElem?, Array.getD_eq_getD_getElem?, this]
      | _ => rfl
    have hex : execOp (fillP l 0 (fun i => listed.getD i false) V a).eval o = execOp (fill l 0 V a).eval o :=
      execOp_congr o (Region.noSelect_spec hB3 i o · · ho) hev
    have hwant : Region.wanted o (yielded l.toArray (fillP l 0 (fun i => listed.getD i false) V a).tmps) = Region.wanted o (yielded l.toArray (fill l 0 V a).tmps) := by
      unfold Region.wanted
      cases hg : o.guard with
      | none => rfl
      | some jw =>
        obtain ⟨j, want⟩ := jw
        simp only
        congr 1
        unfold yielded
        cases hj : (l.toArray[j]?).bind (·.dst) with
        | none => rfl
        | some t =>
          simp only [Option.bind_some]
          rw [hsame t (by
            unfold Oper.looksAt
            refine List.mem_append.2 (.inr ?_)
            rw [hg]
            show t ∈ ((l.toArray[j]?).bind (·.dst)).toList
            rw [hj]
            simp)]
    have hdf : DepFacts S V w' o.after.toList := depFacts_of fun e he hb => by
      have hlt' := (hdeps i o ho').1 e (by simpa using he) hb
      exact hSV e.on (by omega) (hall e (by simpa using he) hb)
    have hdo : ∀ j, waitsB l.toArray i j = true → (fun i => listed.getD i false) j = true := fun j hw => by
      obtain ⟨o2, ho2, e, he, hb, rfl⟩ := waitsB_spec hw
      have : o2 = o := Option.some.inj (ho2.symm.trans ho)
      subst this
      exact hall e he hb
    have hone := (phStep_get hstep i o ho' (fun i => listed.getD i false) V w' hrel hJV (by rw [Nat.zero_add]; exact hlf) (by rw [Nat.zero_add]; exact hdo) hcl hdf).out
    rw [Nat.zero_add] at hone
    -- what it leaves
    have hK : ∀ v w'', PhPost Rel S J (fun i => listed.getD i false) V i o.dst w' .normal ((fill l 0 V a).put o.dst v) w'' → I (listed.setIfInBounds i true) ((fillP l 0 (fun i => listed.getD i false) V a).put o.dst v) w'' := by
      rintro v w'' ⟨⟨_, _, hrel', hv⟩, hJw⟩
      have hval : (o.dst.map fun d => ((fill l 0 V a).put o.dst v).tmps.getD d undef).getD undef = match o.dst with | some _ => v | none => undef := by
        cases hd : o.dst with
        | none => rfl
        | some d =>
          have hds := hlt i o d ho' hd
          simp only [Option.map_some, Option.getD_some]
          rw [Array.getD_eq_getD_getElem?, put_same, fill_eq, fillP_size, if_pos hds]
          rfl
      rw [hval] at hv hJw
      have hL : (fun k => (listed.setIfInBounds i true).getD k false) = updL (fun k => listed.getD k false) i := by
        funext k
        unfold updL
        by_cases hk : k = i
        · subst hk
          simp [hil']
        · rw [if_neg hk, getD_set_ne false (Ne.symm hk)]
      refine ⟨fun k => if k = i then (match o.dst with | some _ => v | none => undef) else V k, ?_, htrans _ _ _ hrel hrel', ?_, by rw [hL]; exact hJw, ?_⟩
      · refine act_ext ?_ ?_ ?_
        · rw [put_size, fillP_size, fillP_size]
        · intro t ht
          rw [put_size, fillP_size] at ht
          by_cases hot : o.dst = some t
          · have hput : ((fillP l 0 (fun i => listed.getD i false) V a).put o.dst v).tmps[t]? = some v := by rw [hot, put_same, fillP_size, if_pos ht]
            rw [hput]
            have := fillP_get l t 0 (fun k => (listed.setIfInBounds i true).getD k false) (fun k => if k = i then (match o.dst with | some _ => v | none => undef) else V k) a i o ho' hot (by simp [hil']) ht
              (fun j p hj hp => hun j i p o t hj ho' hp hot)
            rw [this]
            simp [hot]
          · rw [put_other hot]
            refine fillP_congr l t 0 _ _ _ _ a a rfl rfl fun j p hj hp => ?_
            have hne : j ≠ i := fun e => by
              subst e
              rw [hj] at ho'
              injection ho' with e
              exact hot (e ▸ hp)
            simp only [Nat.zero_add, if_neg hne]
            exact ⟨(getD_set_ne false (Ne.symm hne)).symm, trivial⟩
        · rw [put_def, fillP_def, fillP_def]
      · intro k hk hl
        by_cases hki : k = i
        · subst hki
          simp only [if_pos]
          exact hv
        · simp only [if_neg hki]
          rw [getD_set_ne false (Ne.symm hki)] at hl
          exact hS k _ _ _ hrel' (hSV k hk hl)
      · rw [hL]
        intro j k hw hj
        by_cases hji : j = i
        · subst hji
          exact updL_up (hdo k hw)
        · rw [updL_ne hji] at hj
          exact updL_up (hcl j k hw hj)
    unfold wpOp
    rw [ho]
    simp only
    rw [hwant]
    unfold wpList at hone
    split
    · rename_i hw
      rw [if_pos hw] at hone
      refine .inl (op_carry (Q' := PhPost Rel S J (fun i => listed.getD i false) V i o.dst w') hex (fun e x y h => ⟨h.1.1, h.1.2.1⟩) hK ?_)
      rcases hone with h | ⟨_, x, y, h⟩
      · exact h
      · cases h.1.1
    · rename_i hw
      rw [if_neg hw] at hone
      exact hK undef w' hone
  · intro listed a' w' hfull hI
    obtain ⟨V, rfl, hrel, hSV, hJV, hcl⟩ := hI
    have : fillP l 0 (fun i => listed.getD i false) V a = fill l 0 V a := by
      rw [fill_eq]
      refine act_ext (by rw [fillP_size, fillP_size]) (fun t _ => ?_) (by rw [fillP_def, fillP_def])
      refine fillP_congr l t 0 _ _ V V a a rfl rfl fun j p hj hp => ?_
      have hjl : j < l.length := (List.getElem?_eq_some_iff.1 hj).1
      simp only [Nat.zero_add]
      exact ⟨hfull j (by simpa using hjl), trivial⟩
    rw [this]
    exact hend (fun i => listed.getD i false) V w' (fun i hi => hfull i (by simpa using hi)) hrel (sFacts_of fun i hi => by rw [Nat.zero_add]; exact hSV i hi (hfull i (by simpa using hi))) hJV
  · unfold leftOf
    have := List.countP_le_length (p := fun b : Bool => b == false) (l := (Array.replicate l.toArray.size false).toList)
    simpa using this
  · refine ⟨fun _ => undef, ?_, hrefl _, fun i _ h => ?_, ?_, ?_⟩
    · have hnone : ∀ (l : List Oper) (k : Nat) (L : Nat → Bool) (V : Nat → Value) (a : Act), (∀ i, L i = false) → fillP l k L V a = a := by
        intro l
        induction l with
        | nil => intros; rfl
        | cons o l ih => intro k L V a hL; simp only [fillP, hL]; exact ih _ _ _ _ hL
      rw [hnone _ _ _ _ _ fun i => by simp [Array.getElem?_replicate]; split <;> rfl]
    · simp [Array.getElem?_replicate] at h
      split at h <;> simp at h
    · have e : (fun i => (Array.replicate l.toArray.size false).getD i false) = fun _ => false := by
        funext i
        simp [Array.getElem?_replicate]
        split <;> rfl
      rw [e]
      exact hJ0
    · intro j k _ h
      simp [Array.getElem?_replicate] at h
      split at h <;> simp at h

/-- what such a region's worlds have in common: but blocks g and r nothing that was there is changed -/
structure Way2 (g : Nat) (r : Option Nat) (w w' : World) : Prop where
  os : w'.os = w.os
  tape : w'.tape = w.tape
  output : w'.output = w.output
  size : w.heap.size ≤ w'.heap.size
  block : ∀ k, k < w.heap.size → k ≠ g → some k ≠ r → w'.heap[k]? = w.heap[k]?
theorem Way2.refl {g : Nat} {r : Option Nat} (w : World) : Way2 g r w w := ⟨rfl, rfl, rfl, Nat.le_refl _, fun _ _ _ _ => rfl⟩
theorem Way2.trans {g : Nat} {r : Option Nat} {x y z : World} (h : Way2 g r x y) (k : Way2 g r y z) : Way2 g r x z :=
  ⟨k.os.trans h.os, k.tape.trans h.tape, k.output.trans h.output, Nat.le_trans h.size k.size, fun i hi h1 h2 => (k.block i (Nat.lt_of_lt_of_le hi h.size) h1 h2).trans (h.block i hi h1 h2)⟩
theorem Way2.of_grown {g : Nat} {r : Option Nat} {w w' : World} (h : w.grownBy w' r) : Way2 g r w w' := ⟨h.os, h.tape, h.output, h.size, fun k hk _ hr => h.block k hk hr⟩
theorem Way2.of_put {g : Nat} {r : Option Nat} {w w' : World} (h : w.grownBy w' (some g)) : Way2 g r w w' := ⟨h.os, h.tape, h.output, h.size, fun k hk hg _ => h.block k hk (fun e => hg (by injection e))⟩
theorem Way2.of_below {g : Nat} {r : Option Nat} {w w' : World} (h : Below w.heap.size w w') : Way2 g r w w' := ⟨h.os, h.tape, h.output, h.size, fun k hk _ _ => h.block k hk⟩
end
end Go.Mun

namespace Go.Mun
open Go Go.RowKit

theorem foldl_fill (l : List Value) : ∀ (k : Nat) (Z : Array Value), k + l.length ≤ Z.size → ∀ j, ((l.zipIdx k).foldl (fun cs x => cs.setIfInBounds x.2 x.1) Z)[j]? = if k ≤ j ∧ j < k + l.length then l[j - k]? else Z[j]? := by
  induction l with
  | nil => intro k Z _ j; simp; omega
  | cons v l ih =>
    intro k Z hz j
    simp only [List.length_cons] at hz ⊢
    simp only [List.zipIdx_cons, List.foldl_cons]
    rw [ih (k + 1) _ (by simp; omega) j]
    by_cases h1 : k + 1 ≤ j ∧ j < k + 1 + l.length
    · rw [if_pos h1, if_pos (by omega), show j - k = (j - (k + 1)) + 1 from by omega]
      rfl
    · rw [if_neg h1, Array.getElem?_setIfInBounds]
      by_cases h2 : k = j
      · subst h2
        rw [if_pos rfl, if_pos (by omega), if_pos (by omega), Nat.sub_self]
        rfl
      · rw [if_neg h2, if_neg (by omega)]
theorem fold_fill (Z cs : Array Value) (h : Z.size = cs.size) : cs.zipIdx.foldl (fun cs x => cs.setIfInBounds (0 + x.2) x.1) Z = cs := by
  rw [← Array.foldl_toList]
  simp only [Nat.zero_add, Array.toList_zipIdx]
  apply Array.ext_getElem?
  intro j
  rw [foldl_fill cs.toList 0 Z (by simp [h]) j]
  by_cases hj : j < cs.size
  · rw [if_pos (by simpa using hj)]; simp
  · rw [if_neg (by simpa using hj), Array.getElem?_eq_none (by omega), Array.getElem?_eq_none (by omega)]

theorem run_row_one {P : Program} {t e : TypeId} {z : Value} {size bytes : Nat} (hT : SliceTy P t e z size bytes) (hs : size ≤ 16777216) (v : Value) (hv : v.cells.size = size) (w : World) :
    (Instr.buildSlice t 1 #[(0, v)]).run P w = .ok (.slice (some ⟨w.heap.size, 0, none⟩) 1 1) (w.alloc (.cells v.cells e)) := by
  obtain ⟨ht, i, hi, hz, hsz, hby, hzs, h0⟩ := hT
  have h1 : ¬ (1 * size > 2 ^ 24) := by omega
  have h2 : ¬ (1 * size = 0) := by omega
  have hf : Instr.fill (fun k => some (k * size, size)) ((Array.range (1 * size)).map (fun k => z.cells[k % z.cells.size]!)) [(0, v)] = some v.cells := by
    simp only [Instr.fill]
    rw [if_neg (by simp [hv])]
    congr 1
    simp only [Nat.zero_mul]
    exact fold_fill _ _ (by simp [hv])
  have h3 : size ≠ 0 := by omega
  have h4 : ¬ (16777216 < size) := by omega
  simp only [Nat.one_mul] at hf
  simp [Instr.buildSlice, run_underlying ht, sizeOf, typeInfo, hi, hsz, hz, zeroValue, h3, h4, newRow]
  rw [hf]
  rfl

/-- '[]T{x}' at an operation -/
theorem wpList_row_one {P : Program} {ops : Array Oper} {rest : List Oper} {o : Oper} {a : Act} {w : World} {Q : Exit → Act → World → Prop} (hgd : o.guard = none) {t e : TypeId} (x : Operand) (ho : o.op = .buildSlice t 1 #[(0, x)])
    {z : Value} {size bytes : Nat} (hT : SliceTy P t e z size bytes) (hs : size ≤ 16777216) {cs : Array Value} (hx : a.eval x = .agg cs) (hc : cs.size = size)
    (h : ∀ w', Blk w' w.heap.size e cs → Below w.heap.size w w' → w.heap.size < w'.heap.size → wpList P ops Q rest (a.put o.dst (.slice (some ⟨w.heap.size, 0, none⟩) 1 1)) w') : wpList P ops Q (o :: rest) a w := by
  refine wpList_plain hgd fun _ hK => ?_
  have hr := run_row_one hT hs (.agg cs) hc w
  unfold Oper.wp execOp
  simp only [ho, List.map_toArray, List.map_cons, List.map_nil, hx, Sem.run_bind, hr, Result.andThen_ok, Sem.run_pure]
  exact hK _ _ (h _ (Blk.new w e _) ((Below.refl _ _).alloc (Nat.le_refl _) _) (by simp))

/-- the same, whatever the element -/
theorem wpList_row_val {P : Program} {ops : Array Oper} {rest : List Oper} {o : Oper} {a : Act} {w : World} {Q : Exit → Act → World → Prop} (hgd : o.guard = none) {t e : TypeId} (x : Operand) (ho : o.op = .buildSlice t 1 #[(0, x)])
    {z : Value} {size bytes : Nat} (hT : SliceTy P t e z size bytes) (hs : size ≤ 16777216) {v : Value} (hx : a.eval x = v) (hc : v.cells.size = size)
    (h : ∀ w', Blk w' w.heap.size e v.cells → Below w.heap.size w w' → w.heap.size < w'.heap.size → wpList P ops Q rest (a.put o.dst (.slice (some ⟨w.heap.size, 0, none⟩) 1 1)) w') : wpList P ops Q (o :: rest) a w := by
  refine wpList_plain hgd fun _ hK => ?_
  have hr := run_row_one hT hs v hc w
  unfold Oper.wp execOp
  simp only [ho, List.map_toArray, List.map_cons, List.map_nil, hx, Sem.run_bind, hr, Result.andThen_ok, Sem.run_pure]
  exact hK _ _ (h _ (Blk.new w e _) ((Below.refl _ _).alloc (Nat.le_refl _) _) (by simp))

/-- '[]T{x, y}' of elements of one cell -/
theorem run_row_two {P : Program} {t e : TypeId} {z : Value} {bytes : Nat} (hT : SliceTy P t e z 1 bytes) (x y : Value) (hx : x.cells = #[x]) (hy : y.cells = #[y]) (w : World) :
    (Instr.buildSlice t 2 #[(0, x), (1, y)]).run P w = .ok (.slice (some ⟨w.heap.size, 0, none⟩) 2 2) (w.alloc (.cells #[x, y] e)) := by
  obtain ⟨ht, i, hi, hz, hsz, hby, hzs, h0⟩ := hT
  have hf : Instr.fill (fun k => some (k * 1, 1)) ((Array.range 2).map (fun k => z.cells[k % z.cells.size]!)) [(0, x), (1, y)] = some #[x, y] := by
    simp [Instr.fill, hx, hy, Array.range]
    apply Array.ext_getElem?
    intro j
    match j with
    | 0 => simp
    | 1 => simp
    | j + 2 => simp
  simp [Instr.buildSlice, run_underlying ht, sizeOf, typeInfo, hi, hsz, hz, zeroValue, newRow]
  simp only [Nat.mul_one] at hf
  rw [hf]
  rfl
theorem wpList_row_two {P : Program} {ops : Array Oper} {rest : List Oper} {o : Oper} {a : Act} {w : World} {Q : Exit → Act → World → Prop} (hgd : o.guard = none) {t e : TypeId} (x y : Operand) (ho : o.op = .buildSlice t 2 #[(0, x), (1, y)])
    {z : Value} {bytes : Nat} (hT : SliceTy P t e z 1 bytes) (_hs : 1 ≤ 16777216) {v u : Value} (hx : a.eval x = v) (hy : a.eval y = u) (hv : v.cells = #[v]) (hu : u.cells = #[u])
    (h : ∀ w', Blk w' w.heap.size e #[v, u] → Below w.heap.size w w' → w.heap.size < w'.heap.size → wpList P ops Q rest (a.put o.dst (.slice (some ⟨w.heap.size, 0, none⟩) 2 2)) w') : wpList P ops Q (o :: rest) a w := by
  refine wpList_plain hgd fun _ hK => ?_
  have hr := run_row_two hT v u hv hu w
  unfold Oper.wp execOp
  simp only [ho, List.map_toArray, List.map_cons, List.map_nil, hx, hy, Sem.run_bind, hr, Result.andThen_ok, Sem.run_pure]
  exact hK _ _ (h _ (Blk.new w e _) ((Below.refl _ _).alloc (Nat.le_refl _) _) (by simp))
end Go.Mun

namespace Go.Mun
open Go Go.RowKit Go.Proofs

/-- how the worlds on the way go on: blocks below B, and blocks of another type, stay; those of n cells of type t stay such -/
structure RelT (B : Nat) (t : TypeId) (n : Nat) (x y : World) : Prop where
  os : y.os = x.os
  tape : y.tape = x.tape
  output : y.output = x.output
  size : x.heap.size ≤ y.heap.size
  block : ∀ k, k < x.heap.size → (k < B ∨ ∀ cs, ¬ Blk x k t cs) → y.heap[k]? = x.heap[k]?
  has : ∀ g, (∃ cs : Array Value, cs.size = n ∧ Blk x g t cs) → ∃ cs : Array Value, cs.size = n ∧ Blk y g t cs
namespace RelT
variable {B n : Nat} {t : TypeId} {x y z : World}
theorem refl (x : World) : RelT B t n x x := ⟨rfl, rfl, rfl, Nat.le_refl _, fun _ _ _ => rfl, fun _ h => h⟩
theorem trans (x y z : World) (h : RelT B t n x y) (k : RelT B t n y z) : RelT B t n x z :=
  ⟨k.os.trans h.os, k.tape.trans h.tape, k.output.trans h.output, Nat.le_trans h.size k.size, fun i hi hc =>
    (k.block i (Nat.lt_of_lt_of_le hi h.size) (hc.imp id fun hn cs hb => hn cs (by unfold Blk at *; rw [← h.block i hi hc]; exact hb))).trans (h.block i hi hc), fun g hg => k.has g (h.has g hg)⟩
theorem of_below (h : Below x.heap.size x y) : RelT B t n x y := ⟨h.os, h.tape, h.output, h.size, fun k hk _ => h.block k hk, fun _ ⟨cs, e, hb⟩ => ⟨cs, e, hb.ext h⟩⟩
theorem of_put {g : Nat} {old cs : Array Value} (h : x.grownBy y (some g)) (hB : B ≤ g) (ho : Blk x g t old) (hn : Blk y g t cs) (hs : cs.size = n) : RelT B t n x y :=
  ⟨h.os, h.tape, h.output, h.size, fun k hk hc => h.block k hk (fun e => by
    injection e with e
    subst e
    rcases hc with hc | hc
    · omega
    · exact hc _ ho), fun g' ⟨cs', e, hb⟩ => by
    by_cases hg : g' = g
    · subst hg; exact ⟨cs, hs, hn⟩
    · exact ⟨cs', e, hb.grown h (fun e => hg (by injection e))⟩⟩
theorem blk {g : Nat} {u : TypeId} {cs : Array Value} (h : RelT B t n x y) (hb : Blk x g u cs) (hne : u ≠ t) : Blk y g u cs :=
  (h.block g hb.lt (.inr fun cs' hb' => by unfold Blk at *; rw [hb] at hb'; injection hb' with e; injection e with _ e2; exact hne e2)).trans hb
theorem low {g : Nat} {u : TypeId} {cs : Array Value} (h : RelT B t n x y) (hb : Blk x g u cs) (hg : g < B) : Blk y g u cs := (h.block g hb.lt (.inl hg)).trans hb
theorem below (h : RelT B t n x y) (hB : B ≤ x.heap.size) : Below B x y := ⟨h.os, h.tape, h.output, h.size, fun k hk => h.block k (Nat.lt_of_lt_of_le hk hB) (.inl hk)⟩
theorem own {b m size : Nat} {e : TypeId} {v : Value} {xs : List Value} (h : RelT B t n x y) (ho : x.ownsRow b e size v m xs) (hne : e ≠ t) : y.ownsRow b e size v m xs := by
  obtain ⟨h1, h2⟩ := ho
  refine ⟨h1, ?_⟩
  rcases h2 with h2 | ⟨g, cap, cur, hv, hg, hb, r⟩
  · exact .inl h2
  · exact .inr ⟨g, cap, cur, hv, hg, h.blk (u := e) (cs := cur) hb hne, r⟩
end RelT
theorem own_ad {w : World} {b m size : Nat} {e : TypeId} {v : Value} {xs : List Value} (h : w.ownsRow b e size v (m + 1) xs) : ∃ ad c, v = .slice (some ad) (m + 1) c := by
  rcases h.2 with ⟨_, h2⟩ | ⟨g, cap, cur, hv, _⟩
  · cases h2
  · exact ⟨_, _, hv⟩
theorem num_ne : (37 : TypeId) ≠ 39 := by decide
theorem u64sTy : SliceTy Try.prog 47 37 (.int .u64 0) 1 8 := SliceTy.mk' Try.underlying47 (by kernel_rfl) rfl (by decide)
theorem limb_mod4 (n : Nat) {j : Nat} (hj : j < 4) : limb (n % 2 ^ 256) j = limb n j := by
  have : ∀ M, 64 * j + 64 ≤ M → n % 2 ^ M / 2 ^ (64 * j) % 2 ^ 64 = n / 2 ^ (64 * j) % 2 ^ 64 := by
    intro M hM
    obtain ⟨d, rfl⟩ := Nat.exists_eq_add_of_le hM
    rw [show 64 * j + 64 + d = 64 * j + (64 + d) from by omega, Nat.pow_add, Nat.mod_mul_right_div_self, Nat.pow_add, Nat.mod_mul_right_mod]
  exact this 256 (by omega)
theorem sum_bd {a b k m : Nat} (ha : a < 2 ^ k) (hb : b < 2 ^ k) (h : k + 64 = m) : a + b < 2 ^ m := by
  subst h
  rw [Nat.pow_add]
  have : 2 ^ k * 2 ≤ 2 ^ k * 2 ^ 64 := Nat.mul_le_mul_left _ (by decide)
  omega
theorem sum_div {a b k : Nat} (ha : a < 2 ^ k) (hb : b < 2 ^ k) : (a + b) / 2 ^ k < 2 ^ 64 :=
  Nat.div_lt_of_lt_mul (by rw [← Nat.pow_add]; exact sum_bd ha hb rfl)
theorem sum_five {a b : Nat} (ha : a < 2 ^ 256) (hb : b < 2 ^ 256) : (limbsV ((a + b) % 2 ^ 256)).toList ++ [.int .u64 ((a + b) / 2 ^ 256 : Nat)] = (tab .u64 5 (limb (a + b))).toList := by
  have hm := fun j (hj : j < 4) => limb_mod4 (a + b) hj
  have h4 : (a + b) / 2 ^ 256 = limb (a + b) 4 := by
    unfold limb
    rw [Nat.mod_eq_of_lt]
    exact sum_div ha hb
  simp only [limbsV, hm 0 (by decide), hm 1 (by decide), hm 2 (by decide), hm 3 (by decide), h4, tab]
  rfl
/-- what each operation of the region writes -/
def SAM (B g8 cy N n q r : Nat) : Nat → Value → World → Prop
  | 0, v, _ => v = .slice (some ⟨g8, 0, none⟩) 4 4
  | 1, v, _ => v = .int .u64 (cy : Nat)
  | 2, v, w => ∃ p, v = .slice (some ⟨p, 0, none⟩) 1 1 ∧ Blk w p 37 #[.int .u64 (cy : Nat)]
  | 3, v, w => w.ownsRow B 37 1 v 5 (tab .u64 5 (limb N)).toList
  | 4, v, _ => v = .agg (limbsV n)
  | 5, v, _ => v = .tuple #[.agg (limbsV q), .agg (limbsV r)]
  | 6, v, _ => v = .tuple #[.agg (limbsV q), .agg (limbsV r)]
  | 7, v, _ => v = .agg (limbsV q)
  | 8, v, _ => v = .agg (limbsV r)
  | 9, v, w => ∃ p, v = .pointer (some ⟨p, 0, none⟩) ∧ B ≤ p ∧ ∃ cs : Array Value, cs.size = 4 ∧ Blk w p 39 cs
  | 10, v, w => ∃ p, v = .pointer (some ⟨p, 0, none⟩) ∧ B ≤ p ∧ ∃ cs : Array Value, cs.size = 4 ∧ Blk w p 39 cs
  | 11, _, _ => True
  | _, _, _ => True
theorem SAM_stays (B g8 cy N n q r : Nat) : ∀ i v (wa wb : World), RelT B 39 4 wa wb → SAM B g8 cy N n q r i v wa → SAM B g8 cy N n q r i v wb
  | 0, _, _, _, _, h => h
  | 1, _, _, _, _, h => h
  | 2, _, _, _, hb, ⟨p, h1, h2⟩ => ⟨p, h1, hb.blk h2 num_ne⟩
  | 3, _, _, _, hb, h => hb.own h num_ne
  | 4, _, _, _, _, h => h
  | 5, _, _, _, _, h => h
  | 6, _, _, _, _, h => h
  | 7, _, _, _, _, h => h
  | 8, _, _, _, _, h => h
  | 9, _, _, _, hb, ⟨p, h1, h2, h3⟩ => ⟨p, h1, h2, hb.has _ h3⟩
  | 10, _, _, _, hb, ⟨p, h1, h2, h3⟩ => ⟨p, h1, h2, hb.has _ h3⟩
  | 11, _, _, _, _, h => h
  | _ + 12, _, _, _, _, h => h
/-- the last that is written is the rest -/
def JAM (r : Nat) (L : Nat → Bool) (V : Nat → Value) (w : World) : Prop := L 12 = true → ∀ p, V 10 = .pointer (some ⟨p, 0, none⟩) → Blk w p 39 (limbsV r)
theorem jam_no {r k : Nat} {L : Nat → Bool} {V : Nat → Value} {w : World} (h : L 12 = false) (hk : (12 : Nat) ≠ k) : JAM r (updL L k) V w := fun e => by
  rw [updL_ne hk, h] at e
  cases e
theorem jam_yes {r p : Nat} {L : Nat → Bool} {V : Nat → Value} {v : Value} {w : World} (e : V 10 = .pointer (some ⟨p, 0, none⟩)) (hx : Blk w p 39 (limbsV r)) : JAM r L (upd V 12 v) w := fun _ p' h => by
  rw [upd_ne (by decide), e] at h
  injection h with h
  injection h with h
  injection h with h
  subst h
  exact hx
set_option maxRecDepth 100000 in
set_option maxHeartbeats 1000000 in
theorem AddMod_pos (a b n : Nat) (w : World) (ha : a < 2 ^ 256) (hb : b < 2 ^ 256) (hn : n < 2 ^ 256) (hn0 : n ≠ 0) : Calls Try.prog 15 #[.agg (wcells a), .agg (wcells b), .agg (wcells n)] w fun e w' => e = .returned (.agg (wcells ((a + b) % n))) ∧ Below w.heap.size w w' := by
  have hW := wordTy
  have hN := numTy
  have zW := zWordL
  have zN := zNumL
  have HSN := Lib.hid limbsV_size
  have H1N := Lib.hid limbsV_one
  have HSW := Lib.hid wcells_size
  have H1W := Lib.hid wcells_one
  have HFr := Lib.hid from_any
  have HWd := Lib.hid word_any
  have hEq := fun w => eq_num0 n hn w
  rw [decide_eq_false hn0] at hEq
  have hTU := u64sTy
  have HTB := Lib.hid (sum_five ha hb)
  have HN8 := Lib.hid (sum_bd (m := 64 * 5) ha hb rfl)
  have HAdd := Lib.hid (fun w => add_any a b w ha hb)
  have HLT := Lib.hid (show (a + b) % n < 2 ^ 256 from Nat.lt_trans (Nat.mod_lt _ (Nat.pos_of_ne_zero hn0)) hn)
  have CDiv := Lib.hid (fun (w : World) (ad : Addr) (c : Nat) (hl : Rd w (some ad) (tab .u64 5 (limb (a + b))).toList) => divide_any (a + b) n 5 c ad w (Nat.pos_of_ne_zero hn0) hn (by decide) (by decide) HN8.out hl)
  generalize (a + b) / n % 2 ^ 256 = q at *
  generalize (a + b) % n = r at *
  generalize (a + b) / 2 ^ 256 = cy at *
  generalize a + b = N at *
  clear hn0
  go_enter Try.func15, Try.ntmps15
  have tokA : True := trivial
  have tokB : True := trivial
  have tokC : True := trivial
  go_upto_region 4 with (first
    | ((with_reducible refine gd_box ?_); have _t := tokA; refine wpList_box_agg rfl _ (.tmp 0) rfl rfl ?_; clear tokA; intro w1 hx1 hb1 hl1)
    | ((with_reducible refine gd_box ?_); have _t := tokB; refine wpList_box_agg rfl _ (.tmp 1) rfl rfl ?_; clear tokB; intro w2 hx2 hb2 hl2)
    | ((with_reducible refine gd_box ?_); refine wpList_box_agg rfl _ (.tmp 2) rfl rfl ?_; intro w3 hx3 hb3 hl3; have hx13 := (hx1.ext hb2).ext hb3; have hx23 := hx2.ext hb3; have hB3 := below_step (below_step hb1 hb2) hb3)
    | ((with_reducible refine gd_alloc ?_); have _t := tokC; refine wpList_alloc_blk rfl 23 rfl zW ?_; clear tokC; intro w4 hx4 hb4 hl4; replace hx4 : Blk w4 w3.heap.size 23 (wcells 0) := hx4; have hx34 := hx3.ext hb4; have hx14 := hx13.ext hb4; have hx24 := hx23.ext hb4; have hB4 := below_step hB3 hb4)
    | ((with_reducible refine gd_load ?_); refine wpList_load_blk rfl 23 (.tmp 5) rfl hx34 (by rw [HSW.out]; exact hW) rfl ?_)
    | (go_at_call 47; refine (HFr.out n _ hn).mono ?_; rintro e w5 ⟨rfl, hb5⟩; have hx15 := hx14.ext hb5; have hx25 := hx24.ext hb5; have hx45 := hx4.ext hb5; have hB5 := below_step hB4 hb5)
    | ((with_reducible refine gd_alloc ?_); refine wpList_alloc_blk rfl 39 rfl zN ?_; intro w6 hx6 hb6 hl6; replace hx6 : Blk w6 w5.heap.size 39 (limbsV 0) := hx6; have hx16 := hx15.ext hb6; have hx26 := hx25.ext hb6; have hx46 := hx45.ext hb6; have hB6 := below_step hB5 hb6)
    | ((with_reducible refine gd_store ?_); refine wpList_store_all rfl 39 (.tmp 7) (.tmp 13) rfl (limbsV n) hx6 (by rw [HSN.out]; exact hN) (by rw [HSN.out, HSN.out]) (H1N.out _) (by rfl) (by rfl) ?_; intro w7 hx7 hg7; have hb7 := below_blk hb6 hb6.size hg7 (Nat.le_refl _); have hx17 := hx15.ext hb7; have hx27 := hx25.ext hb7; have hx47 := hx45.ext hb7; have hB7 := below_step hB5 hb7)
    | ((with_reducible refine gd_load ?_); refine wpList_load_blk rfl 39 (.tmp 7) rfl hx7 (by rw [HSN.out]; exact hN) rfl ?_)
    | fail)
  have hg1' := hx17.lt
  have hg2' := hx27.lt
  have hg4' := hx47.lt
  have hg7' := hx7.lt
  refine wp_region_made (w := w7) (B := w.heap.size) (wB := w) [.val (.agg (wcells a)), .val (.agg (limbsV a)), .val (.agg (wcells b)), .val (.agg (limbsV b)), .val (.tuple #[.agg (limbsV (N % 2 ^ 256)), .int .u64 (cy : Nat)]), .val (.tuple #[.agg (limbsV (N % 2 ^ 256)), .int .u64 (cy : Nat)]), .val (.agg (limbsV (N % 2 ^ 256))), .val (.int .u64 (cy : Nat)), .new 39 (limbsV 0) (limbsV (N % 2 ^ 256)), .putN 8, .val (.int .u64 (cy : Nat))] (by kernel_rfl) (by kernel_rfl) (by kernel_rfl) rfl (by kernel_rfl) rfl hB7.size hB7 (by exact List.nodup_nil) (by intro g hg; exact nomatch hg) trivial ?_ ?_
  · refine ⟨?_, ?_, ?_, ?_, ?_, ?_, ?_, ?_, ?_, ?_, ?_, trivial⟩
    · intro G wx fr hway _ hs hdef hsz
      have s3 : fr.tmps[3]? = some (.pointer (some ⟨w.heap.size, 0, none⟩)) := hs.1
      clear hs
      refine ⟨?_⟩
      refine wpList_load_blk rfl 23 (.tmp 3) rfl (way_blk hway hx17 (by first | exact hx17.lt | omega) (by simp [heldBy, Knd.blockOf])) (by rw [HSW.out]; exact hW) (by simp [Act.eval, s3]) ?_
      refine wpList_nil ?_
      exact kp_val hdef hsz (Below.refl _ _)
    · intro G wx fr hway _ hs hdef hsz
      have s19 : fr.tmps[19]? = some (.agg (wcells a)) := hs.1
      clear hs
      refine ⟨?_⟩
      go_wp2_with fail
      refine (HFr.out a wx ha).mono ?_
      rintro e w2 ⟨rfl, hb2⟩
      go_wp2
      exact kp_post hsz hb2
    · intro G wx fr hway _ hs hdef hsz
      have s4 : fr.tmps[4]? = some (.pointer (some ⟨w1.heap.size, 0, none⟩)) := hs.1
      clear hs
      refine ⟨?_⟩
      refine wpList_load_blk rfl 23 (.tmp 4) rfl (way_blk hway hx27 (by first | exact hx27.lt | omega) (by simp [heldBy, Knd.blockOf])) (by rw [HSW.out]; exact hW) (by simp [Act.eval, s4]) ?_
      refine wpList_nil ?_
      exact kp_val hdef hsz (Below.refl _ _)
    · intro G wx fr hway _ hs hdef hsz
      have s21 : fr.tmps[21]? = some (.agg (wcells b)) := hs.1
      clear hs
      refine ⟨?_⟩
      go_wp2_with fail
      refine (HFr.out b wx hb).mono ?_
      rintro e w2 ⟨rfl, hb2⟩
      go_wp2
      exact kp_post hsz hb2
    · intro G wx fr hway _ hs hdef hsz
      have s20 : fr.tmps[20]? = some (.agg (limbsV a)) := hs.1
      have s22 : fr.tmps[22]? = some (.agg (limbsV b)) := hs.2.1
      clear hs
      refine ⟨?_⟩
      go_wp2_with fail
      refine (HAdd.out wx).mono ?_
      rintro e w2 ⟨rfl, hb2⟩
      go_wp2
      exact kp_post hsz hb2
    · intro G wx fr hway _ hs hdef hsz
      have s23 : fr.tmps[23]? = some (.tuple #[.agg (limbsV (N % 2 ^ 256)), .int .u64 (cy : Nat)]) := hs.1
      clear hs
      refine ⟨?_⟩
      go_wp2
      exact kp_post hsz (Below.refl _ _)
    · intro G wx fr hway _ hs hdef hsz
      have s18 : fr.tmps[18]? = some (.tuple #[.agg (limbsV (N % 2 ^ 256)), .int .u64 (cy : Nat)]) := hs.1
      clear hs
      refine ⟨?_⟩
      go_wp2
      exact kp_post hsz (Below.refl _ _)
    · intro G wx fr hway _ hs hdef hsz
      have s18 : fr.tmps[18]? = some (.tuple #[.agg (limbsV (N % 2 ^ 256)), .int .u64 (cy : Nat)]) := hs.1
      clear hs
      refine ⟨?_⟩
      go_wp2
      exact kp_post hsz (Below.refl _ _)
    · intro G wx fr hway _ hs hdef hsz
      clear hs
      refine ⟨?_⟩
      refine wpList_alloc_blk rfl 39 rfl zN ?_
      intro wy hxy hby _
      refine wpList_nil ?_
      exact kp_new hdef hsz hby hxy
    · intro G wx fr hway hpre hs hdef hsz
      have s8 : fr.tmps[8]? = some (.pointer (some ⟨G 8, 0, none⟩)) := hs.1
      have s24 : fr.tmps[24]? = some (.agg (limbsV (N % 2 ^ 256))) := hs.2.1
      clear hs
      have hpre' : Blk wx (G 8) 39 (limbsV 0) := hpre
      refine ⟨?_⟩
      refine wpList_store_all rfl 39 (.tmp 8) (.tmp 24) rfl (limbsV (N % 2 ^ 256)) hpre' (by rw [HSN.out]; exact hN) (by rw [HSN.out, HSN.out]) (H1N.out _) (by simp [Act.eval, s8]) (by simp [Act.eval, s24]) ?_
      intro wy hxy hgy
      refine wpList_nil ?_
      exact ⟨rfl, hdef, rfl, hxy, hgy⟩
    · intro G wx fr hway _ hs hdef hsz
      have s25 : fr.tmps[25]? = some (.int .u64 (cy : Nat)) := hs.1
      clear hs
      refine ⟨?_⟩
      go_wp2
      exact kp_post hsz (Below.refl _ _)
  · intro G V wz hval hway hmade hap
    replace hval : V 0 = .agg (wcells a) ∧ V 1 = .agg (limbsV a) ∧ V 2 = .agg (wcells b) ∧ V 3 = .agg (limbsV b) ∧ V 4 = .tuple #[.agg (limbsV (N % 2 ^ 256)), .int .u64 (cy : Nat)] ∧ V 5 = .tuple #[.agg (limbsV (N % 2 ^ 256)), .int .u64 (cy : Nat)] ∧ V 6 = .agg (limbsV (N % 2 ^ 256)) ∧ V 7 = .int .u64 (cy : Nat) ∧ V 8 = .pointer (some ⟨G 8, 0, none⟩) ∧ V 9 = undef ∧ V 10 = .int .u64 (cy : Nat) ∧ True := hval
    replace hmade : (w7.heap.size ≤ G 8 ∧ G 8 < wz.heap.size ∧ Blk wz (G 8) 39 (limbsV (N % 2 ^ 256))) ∧ True := hmade
    obtain ⟨e0, e1, e2, e3, e4, e5, e6, e7, e8, e9, e10, -⟩ := hval
    obtain ⟨⟨hg8, hl8, hx_8⟩, -⟩ := hmade
    clear hap
    simp only [fill, Act.put, e0, e1, e2, e3, e4, e5, e6, e7, e8, e10]
    clear e0 e1 e2 e3 e4 e5 e6 e7 e8 e9 e10
    simp only [Exit.then]
    go_simp
    generalize G 8 = g8 at *
    clear G V
    replace hx7 := way_blk hway hx7 hg7' (by simp [heldBy, Knd.blockOf])
    replace hx47 := way_blk hway hx47 hg4' (by simp [heldBy, Knd.blockOf])
    have hBz := hway.2.2
    have hszz := hway.1
    clear hway
    go_upto_region 5 with (fail)
    have hBle := Nat.le_refl wz.heap.size
    have hg8B : g8 < wz.heap.size := hx_8.lt
    have hx8 : Blk wz g8 39 (limbsV (N % 2 ^ 256)) := hx_8
    have hx7B : w5.heap.size < wz.heap.size := hx7.lt
    have hg4B : w3.heap.size < wz.heap.size := hx47.lt
    clear hx_8
    refine wp_region_phase (by kernel_rfl) (by kernel_rfl) (by kernel_rfl) (RelT wz.heap.size 39 4) RelT.refl RelT.trans (SAM wz.heap.size g8 cy N n q r) (SAM_stays wz.heap.size g8 cy N n q r) (JAM r) (fun e => by cases e) ?_ ?_
    · simp only [PhStep]
      refine ⟨?_, ?_, ?_, ?_, ?_, ?_, ?_, ?_, ?_, ?_, ?_, ?_, ?_, trivial⟩
      · intro L V w' hb hj hl hdo hcl hd
        have hl12 : L 12 = false := Bool.eq_false_iff.2 fun e => by have := hcl 12 0 (by kernel_rfl) e; rw [this] at hl; cases hl
        clear hdo hcl hj
        clear hd
        refine ⟨?_⟩
        simp only [fill]
        go_wp2
        exact ⟨⟨rfl, rfl, RelT.refl _, rfl⟩, jam_no hl12 (by decide)⟩
      · intro L V w' hb hj hl hdo hcl hd
        have hl12 : L 12 = false := Bool.eq_false_iff.2 fun e => by have := hcl 12 1 (by kernel_rfl) e; rw [this] at hl; cases hl
        clear hdo hcl hj
        clear hd
        refine ⟨?_⟩
        simp only [fill]
        go_wp2
        exact ⟨⟨rfl, rfl, RelT.refl _, rfl⟩, jam_no hl12 (by decide)⟩
      · intro L V w' hb hj hl hdo hcl hd
        have hl12 : L 12 = false := Bool.eq_false_iff.2 fun e => by have := hcl 12 2 (by kernel_rfl) e; rw [this] at hl; cases hl
        clear hdo hcl hj
        simp only [DepFacts, SAM, Region.binds, forall_const, and_true] at hd
        refine ⟨?_⟩
        simp only [fill, hd]
        clear hd
        simp only [Act.put, List.setIfInBounds_toArray, List.set_cons_zero, List.set_cons_succ]
        go_wp2_with (first | (refine wpList_row_val rfl (.tmp 28) rfl hTU (by decide) rfl rfl ?_; intro w6 hx6 hb6 hl6) | fail)
        exact ⟨⟨rfl, rfl, RelT.of_below hb6, _, rfl, hx6⟩, jam_no hl12 (by decide)⟩
      · intro L V w' hb hj hl hdo hcl hd
        have hl12 : L 12 = false := Bool.eq_false_iff.2 fun e => by have := hcl 12 3 (by kernel_rfl) e; rw [this] at hl; cases hl
        clear hdo hcl hj
        simp only [DepFacts, SAM, Region.binds, forall_const, and_true] at hd
        obtain ⟨h0, p, h2, hxp⟩ := hd
        have hg8 := hb.low hx8 hg8B
        have hbs := Nat.le_trans hBle hb.size
        refine ⟨?_⟩
        simp only [fill, h0, h2]
        clear h0 h2
        simp only [Act.put, List.setIfInBounds_toArray, List.set_cons_zero, List.set_cons_succ]
        obtain ⟨_, iu, hi1, hi2, hi3, hi4, _, _⟩ := id hTU
        go_wp2_with (first | (at_builtin; refine wpList_append_grows _ rfl (.tmp 27) (.tmp 29) _ rfl _ iu _ 1 8 Try.underlying47 hi1 hi2 hi3 hi4 rfl (by decide) (some ⟨g8, 0, none⟩) 4 4 (limbsV (N % 2 ^ 256)).toList rfl (fun e => by cases e) rfl (fun b hb j u hu => by cases hb; exact hg8.rd.cells j u hu) ⟨p, 0, none⟩ 1 1 [.int .u64 (cy : Nat)] rfl rfl (fun j u hu => hxp.rd.cells j u hu) (by intro u hu; rw [List.mem_singleton.1 hu]; rfl) (by decide) (by unfold maxLen; decide) (by decide) ?_; intro v6 w6 ho6 hg6) | fail)
        have hb6 : Below w'.heap.size w' w6 := ⟨hg6.os, hg6.tape, hg6.output, hg6.size, fun k hk => hg6.block k hk (by simp)⟩
        rw [HTB.out] at ho6
        exact ⟨⟨rfl, rfl, RelT.of_below hb6, own_base ho6 hbs⟩, jam_no hl12 (by decide)⟩
      · intro L V w' hb hj hl hdo hcl hd
        have hl12 : L 12 = false := Bool.eq_false_iff.2 fun e => by have := hcl 12 4 (by kernel_rfl) e; rw [this] at hl; cases hl
        clear hdo hcl hj
        clear hd
        have hx7w := hb.low hx7 hx7B
        refine ⟨?_⟩
        simp only [fill]
        simp only [Act.put, List.setIfInBounds_toArray, List.set_cons_zero, List.set_cons_succ]
        go_wp2_with (first | ((with_reducible refine gd_load ?_); refine wpList_load_blk rfl 39 (.tmp 7) rfl hx7w (by rw [HSN.out]; exact hN) rfl ?_) | fail)
        exact ⟨⟨rfl, rfl, RelT.refl _, rfl⟩, jam_no hl12 (by decide)⟩
      · intro L V w' hb hj hl hdo hcl hd
        have hl12 : L 12 = false := Bool.eq_false_iff.2 fun e => by have := hcl 12 5 (by kernel_rfl) e; rw [this] at hl; cases hl
        clear hdo hcl hj
        simp only [DepFacts, SAM, Region.binds, forall_const, and_true] at hd
        have h3 := hd.1
        have h4 : V 4 = .agg (limbsV n) := by first | exact hd.2.1 | exact hd.2
        clear hd
        obtain ⟨ad, c3, e3⟩ := own_ad h3
        refine ⟨?_⟩
        simp only [fill, h4, e3]
        rw [e3] at h3
        clear h4 e3
        simp only [Act.put, List.setIfInBounds_toArray, List.set_cons_zero, List.set_cons_succ]
        go_wp2_with (first | (go_at_call 52; refine (CDiv.out _ ad c3 (Rd.own h3)).mono ?_; rintro e w6 ⟨rfl, hb6⟩) | fail)
        exact ⟨⟨rfl, rfl, RelT.of_below hb6, rfl⟩, jam_no hl12 (by decide)⟩
      · intro L V w' hb hj hl hdo hcl hd
        have hl12 : L 12 = false := Bool.eq_false_iff.2 fun e => by have := hcl 12 6 (by kernel_rfl) e; rw [this] at hl; cases hl
        clear hdo hcl hj
        simp only [DepFacts, SAM, Region.binds, forall_const, and_true] at hd
        refine ⟨?_⟩
        simp only [fill, hd]
        clear hd
        go_wp2
        exact ⟨⟨rfl, rfl, RelT.refl _, rfl⟩, jam_no hl12 (by decide)⟩
      · intro L V w' hb hj hl hdo hcl hd
        have hl12 : L 12 = false := Bool.eq_false_iff.2 fun e => by have := hcl 12 7 (by kernel_rfl) e; rw [this] at hl; cases hl
        clear hdo hcl hj
        simp only [DepFacts, SAM, Region.binds, forall_const, and_true] at hd
        refine ⟨?_⟩
        simp only [fill, hd]
        clear hd
        go_wp2
        exact ⟨⟨rfl, rfl, RelT.refl _, rfl⟩, jam_no hl12 (by decide)⟩
      · intro L V w' hb hj hl hdo hcl hd
        have hl12 : L 12 = false := Bool.eq_false_iff.2 fun e => by have := hcl 12 8 (by kernel_rfl) e; rw [this] at hl; cases hl
        clear hdo hcl hj
        simp only [DepFacts, SAM, Region.binds, forall_const, and_true] at hd
        refine ⟨?_⟩
        simp only [fill, hd]
        clear hd
        go_wp2
        exact ⟨⟨rfl, rfl, RelT.refl _, rfl⟩, jam_no hl12 (by decide)⟩
      · intro L V w' hb hj hl hdo hcl hd
        have hl12 : L 12 = false := Bool.eq_false_iff.2 fun e => by have := hcl 12 9 (by kernel_rfl) e; rw [this] at hl; cases hl
        clear hdo hcl hj
        have hbs := Nat.le_trans hBle hb.size
        clear hd
        refine ⟨?_⟩
        simp only [fill]
        simp only [Act.put, List.setIfInBounds_toArray, List.set_cons_zero, List.set_cons_succ]
        go_wp2_with (first | ((with_reducible refine gd_alloc ?_); refine wpList_alloc_blk rfl 39 rfl zN ?_; intro w6 hx6 hb6 hl6) | fail)
        exact ⟨⟨rfl, rfl, RelT.of_below hb6, _, rfl, hbs, _, HSN.out _, hx6⟩, jam_no hl12 (by decide)⟩
      · intro L V w' hb hj hl hdo hcl hd
        have hl12 : L 12 = false := Bool.eq_false_iff.2 fun e => by have := hcl 12 10 (by kernel_rfl) e; rw [this] at hl; cases hl
        clear hdo hcl hj
        have hbs := Nat.le_trans hBle hb.size
        clear hd
        refine ⟨?_⟩
        simp only [fill]
        simp only [Act.put, List.setIfInBounds_toArray, List.set_cons_zero, List.set_cons_succ]
        go_wp2_with (first | ((with_reducible refine gd_alloc ?_); refine wpList_alloc_blk rfl 39 rfl zN ?_; intro w6 hx6 hb6 hl6) | fail)
        exact ⟨⟨rfl, rfl, RelT.of_below hb6, _, rfl, hbs, _, HSN.out _, hx6⟩, jam_no hl12 (by decide)⟩
      · intro L V w' hb hj hl hdo hcl hd
        have hl12 : L 12 = false := Bool.eq_false_iff.2 fun e => by have := hcl 12 11 (by kernel_rfl) e; rw [this] at hl; cases hl
        clear hdo hcl hj
        have hbs := Nat.le_trans hBle hb.size
        simp only [DepFacts, SAM, Region.binds, forall_const, and_true] at hd
        obtain ⟨p, e1, hp, co, hco, hbo⟩ := hd.1
        have e2 := hd.2.1
        clear hd
        refine ⟨?_⟩
        simp only [fill, e1, e2]
        simp only [Act.put, List.setIfInBounds_toArray, List.set_cons_zero, List.set_cons_succ]
        go_wp2_with (first | ((with_reducible refine gd_store ?_); refine wpList_store_all rfl 39 (.tmp 10) (.tmp 33) rfl (limbsV q) hbo (by rw [HSN.out]; exact hN) (by rw [HSN.out]; exact hco) (H1N.out _) (by rfl) (by rfl) ?_; intro w6 hx6 hg6) | fail)
        exact ⟨⟨rfl, rfl, RelT.of_put hg6 hp hbo hx6 (HSN.out _), trivial⟩, jam_no hl12 (by decide)⟩
      · intro L V w' hb hj hl hdo hcl hd
        clear hdo hcl hj
        have hbs := Nat.le_trans hBle hb.size
        simp only [DepFacts, SAM, Region.binds, forall_const, and_true] at hd
        obtain ⟨p, e1, hp, co, hco, hbo⟩ := hd.1
        have e2 := hd.2.1
        clear hd
        refine ⟨?_⟩
        simp only [fill, e1, e2]
        simp only [Act.put, List.setIfInBounds_toArray, List.set_cons_zero, List.set_cons_succ]
        go_wp2_with (first | ((with_reducible refine gd_store ?_); refine wpList_store_all rfl 39 (.tmp 11) (.tmp 34) rfl (limbsV r) hbo (by rw [HSN.out]; exact hN) (by rw [HSN.out]; exact hco) (H1N.out _) (by rfl) (by rfl) ?_; intro w6 hx6 hg6) | fail)
        exact ⟨⟨rfl, rfl, RelT.of_put hg6 hp hbo hx6 (HSN.out _), trivial⟩, jam_yes e1 hx6⟩
    · intro L V wy hL hrel hS hJ
      replace hrel : RelT wz.heap.size 39 4 wz wy := ⟨hrel.os, hrel.tape, hrel.output, hrel.size, hrel.block, hrel.has⟩
      have e10 : SAM wz.heap.size g8 cy N n q r 10 (V 10) wy := hS.2.2.2.2.2.2.2.2.2.2.1
      obtain ⟨p10, e10, hp10, -⟩ := e10
      have hgo := hJ (hL 12 (by decide)) _ e10
      clear hS hJ hL
      simp only [fill, Act.put, e10]
      simp only [Exit.then]
      go_simp
      clear e10
      have hx47y := hrel.low hx47 hg4B
      have hBy : Below w.heap.size w wy := hBz.trans ((hrel.below (Nat.le_refl _)).mono hBz.size)
      go_wp2_with (first
        | ((with_reducible refine gd_load ?_); refine wpList_load_blk rfl 39 (.tmp 11) rfl hgo (by rw [HSN.out]; exact hN) rfl ?_)
        | (go_at_call 46; refine (HWd.out r _ HLT.out).mono ?_; rintro e w6 ⟨rfl, hb6⟩)
        | ((with_reducible refine gd_store ?_); refine wpList_store_all rfl 23 (.tmp 6) (.tmp 36) rfl (wcells r) (hx47y.ext hb6) (by rw [HSW.out]; exact hW) (by rw [HSW.out, HSW.out]) (H1W.out _) (by rfl) (by rfl) ?_; intro w9 hx9 hg9)
        | fail)
      have hB6 := below_step hBy hb6
      have hB9 := below_blk hB6 hB6.size hg9 (by omega)
      exact bodyPost_ret (results_blk1 (cs := wcells r) rfl (by rw [HSW.out]; exact hW) hx9 rfl) rfl ⟨rfl, hB9⟩
    

end Go.Mun

namespace Go.Mun
open Go Go.RowKit Go.Proofs

theorem alive1 (w : World) : Calls Try.prog 10 #[] w fun e w' => e = .returned (.bool true) ∧ Below w.heap.size w w' := by
  obtain ⟨z0, hz0⟩ : ∃ z, z = ofN 0 := ⟨_, rfl⟩
  obtain ⟨z1, hz1⟩ : ∃ z, z = ofN 1 := ⟨_, rfl⟩
  obtain ⟨zm, hzm⟩ : ∃ z, z = ofN (-1) := ⟨_, rfl⟩
  obtain ⟨z7, hz7⟩ : ∃ z, z = ofN 7 := ⟨_, rfl⟩
  obtain ⟨z8, hz8⟩ : ∃ z, z = ofN 8 := ⟨_, rfl⟩
  have C0 := Lib.hid (fun w => Of_any 0 w (by decide) (by decide))
  have C1 := Lib.hid (fun w => Of_any 1 w (by decide) (by decide))
  have Cm := Lib.hid (fun w => Of_any (-1) w (by decide) (by decide))
  have C7 := Lib.hid (fun w => Of_any 7 w (by decide) (by decide))
  have C8 := Lib.hid (fun w => Of_any 8 w (by decide) (by decide))
  have l0 : z0 < 2 ^ 256 := by rw [hz0]; exact ofN_lt _
  have l1 : z1 < 2 ^ 256 := by rw [hz1]; exact ofN_lt _
  have lm : zm < 2 ^ 256 := by rw [hzm]; exact ofN_lt _
  have l7 : z7 < 2 ^ 256 := by rw [hz7]; exact ofN_lt _
  have l8 : z8 < 2 ^ 256 := by rw [hz8]; exact ofN_lt _
  rw [← hz0] at C0
  rw [← hz1] at C1
  rw [← hzm] at Cm
  rw [← hz7] at C7
  rw [← hz8] at C8
  have CS := Lib.hid (fun w => Sub_any z0 z1 w l0 l1)
  have e1 : (z0 + 2 ^ 256 - z1) % 2 ^ 256 = zm := by rw [hz0, hz1, hzm]; decide
  rw [e1] at CS
  have hq1 := fun w => eq_word zm zm lm lm w
  have hq2 := fun w => eq_word z7 z8 l7 l8 w
  rw [decide_eq_true rfl] at hq1
  rw [decide_eq_false (by rw [hz7, hz8]; decide)] at hq2
  clear hz0 hz1 hzm hz7 hz8 e1 l0 l1 lm l7 l8
  have tok1 : True := trivial
  have tok2 : True := trivial
  have tok3 : True := trivial
  have tok4 : True := trivial
  go_enter Try.func10, Try.ntmps10
  go_wp2_with (first
    | (go_at_call 12; have _t := tok1; refine (C0.out _).mono ?_; clear tok1; rintro e w1 ⟨rfl, hb1⟩)
    | (go_at_call 12; have _t := tok2; refine (C1.out _).mono ?_; clear tok2; rintro e w2 ⟨rfl, hb2⟩)
    | (go_at_call 35; refine (CS.out _).mono ?_; rintro e w3 ⟨rfl, hb3⟩)
    | (go_at_call 12; have _t := tok3; refine (Cm.out _).mono ?_; clear tok3; rintro e w4 ⟨rfl, hb4⟩)
    | (go_at_call 12; have _t := tok4; refine (C7.out _).mono ?_; clear tok4; rintro e w5 ⟨rfl, hb5⟩)
    | (go_at_call 12; refine (C8.out _).mono ?_; rintro e w6 ⟨rfl, hb6⟩)
    | fail)
  go_ret
  exact ⟨rfl, below_step (below_step (below_step (below_step (below_step hb1 hb2) hb3) hb4) hb5) hb6⟩
end Go.Mun

namespace Go.Mun
open Go Go.RowKit

/-- a word's cells that the form reads are those of a number -/
theorem word_of {cs : List Value} {bs : List UInt8} (hl : bs.length = 32) (h : cs = bv bs) : ∃ n, n < 2 ^ 256 ∧ cs.toArray = wcells n := by
  have key : ∀ (k : Nat) (l : List UInt8), l.length = k → ∃ n, n < 2 ^ (8 * k) ∧ ∀ i, i < k → (l[i]?.getD 0).toNat = lowB n (k - 1 - i) := by
    intro k
    induction k with
    | zero => intro l _; exact ⟨0, by simp, fun i hi => by omega⟩
    | succ k ih =>
      intro l hl
      obtain ⟨x, l', rfl⟩ : ∃ x l', l = x :: l' := by
        cases l with
        | nil => simp at hl
        | cons x l' => exact ⟨x, l', rfl⟩
      obtain ⟨n, hn, hi⟩ := ih l' (by simpa using hl)
      have hp : 0 < 2 ^ (8 * k) := Nat.pow_pos (by decide)
      have hx : x.toNat < 256 := x.toNat_lt
      refine ⟨x.toNat * 2 ^ (8 * k) + n, ?_, fun i hik => ?_⟩
      · rw [show 8 * (k + 1) = 8 + 8 * k from by omega, Nat.pow_add]
        have : (x.toNat + 1) * 2 ^ (8 * k) ≤ 2 ^ 8 * 2 ^ (8 * k) := Nat.mul_le_mul_right _ hx
        rw [Nat.add_mul] at this
        omega
      · cases i with
        | zero =>
          simp only [List.getElem?_cons_zero, Option.getD_some]
          unfold lowB
          rw [show k + 1 - 1 - 0 = k from by omega, Nat.add_comm, Nat.add_mul_div_right _ _ hp, Nat.div_eq_of_lt hn, Nat.zero_add, Nat.mod_eq_of_lt hx]
        | succ i =>
          simp only [List.getElem?_cons_succ]
          rw [hi i (by omega)]
          unfold lowB
          rw [show k + 1 - 1 - (i + 1) = k - 1 - i from by omega]
          have e : 2 ^ (8 * k) = 2 ^ (8 * i) * 256 * 2 ^ (8 * (k - 1 - i)) := by rw [show (256 : Nat) = 2 ^ 8 from rfl, ← Nat.pow_add, ← Nat.pow_add]; congr 1; omega
          rw [e, Nat.add_comm, ← Nat.mul_assoc, Nat.add_mul_div_right _ _ (Nat.pow_pos (by decide)), ← Nat.mul_assoc, Nat.add_mul_mod_self_right]
  obtain ⟨n, hn, hi⟩ := key 32 bs hl
  refine ⟨n, hn, ?_⟩
  rw [wcells, bv_wbytes, h]
  unfold tab bv
  congr 1
  apply List.ext_getElem?
  intro i
  by_cases c : i < 32
  · have := hi i c
    rw [List.getElem?_eq_getElem (by omega)] at this
    simp [c, show i < bs.length from by omega]
    simp at this
    omega
  · simp [c]
    omega
end Go.Mun

namespace Go.Mun
open Go Go.RowKit Go.ChangeShapes Go.WideShapes Go.ChangeAt Go.Deep Go.Proofs

theorem arg_word {H : Type} {enc : TypeId × Value → H} {W : World} {v : Value} (h : ArgOk enc Try.prog W 23 v) : ∃ n, n < 2 ^ 256 ∧ v = .agg (wcells n) := by
  obtain ⟨⟨b, hok⟩, fuel, x, hx⟩ := h
  have ht : Try.prog.underlying 23 = some (.array 32 5) := Try.underlying23
  simp only [Value.okWide, ht] at hok
  obtain ⟨cs, rfl, _⟩ := hok
  have hx' : DataW.trod enc Try.prog W 0 (fun _ => true) true fuel 23 cs.toList = some x := hx
  obtain ⟨xs, m, _, _, hlen, hxl, hi⟩ := DataW.trod_array ht hx'
  have hc1 : Try.prog.cellsOf 5 = 1 := by kernel_rfl
  have hc32 : Try.prog.cellsOf 23 = 32 := by kernel_rfl
  rw [hc32] at hlen
  have hbyte : ∀ i, i < 32 → ∃ b : UInt8, cs.toList[i]? = some (.int .u8 (b.toNat : Int)) := fun i h => by
    have h1 := hi i h
    rw [hc1, Nat.mul_one, List.getElem?_eq_getElem (by omega)] at h1
    obtain ⟨b, hb⟩ := opens_byte enc 0 (fun _ => true) true Try.underlying5 W m _ _ h1
    exact ⟨b, cell_of_field hb⟩
  obtain ⟨f, hf⟩ := choose_lt (α := UInt8) (p := fun i b => cs.toList[i]? = some (.int .u8 (b.toNat : Int))) (n := 32) hbyte
  obtain ⟨n, hn, he⟩ := word_of (cs := cs.toList) (bs := (List.range 32).map f) (by simp) (by
    apply List.ext_getElem?
    intro i
    by_cases c : i < 32
    · rw [hf i c]
      simp [bv, c]
    · rw [List.getElem?_eq_none (by omega), List.getElem?_eq_none (by simp [bv]; omega)])
  refine ⟨n, hn, ?_⟩
  rw [← he, Array.toArray_toList]
end Go.Mun

