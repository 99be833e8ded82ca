/- The walks of a memory's Get and Put. -/
import Derived.Test.YtpliedimdhilcaaMemCopy
import Derived.Test.YtpliedimdhilcaaMemAlive
namespace Go.Mun
open Go Go.RowKit Go.Proofs

theorem u8size : (Try.prog.info? 5).map (·.size) = some 1 := by kernel_rfl
set_option maxRecDepth 100000 in
set_option maxHeartbeats 1000000 in
theorem Get_none (at_ : Nat) (w : World) (g L c : Nat) (A : Option Addr) (hc : L ≤ c) (ha : (at_ : Int) ≤ 9223372036854775807) (hm : Blk w g 35 #[.slice A L c]) :
    Calls Try.prog 33 #[.pointer (some ⟨g, 0, none⟩), .int .i64 at_, .int .i64 0] w fun e w' => ∃ v, e = .returned v ∧ w'.ownsRow w.heap.size 5 1 v 0 (bv []) ∧ Below w.heap.size w w' := by
  have hT := bytesTyM
  have hu := hT.1
  have HS := Lib.hid u8size
  by_cases hlt : at_ < L
  · have d1 : decide ((at_ : Int) < L) = true := decide_eq_true (by omega)
    have hcell := hm.cellv (i := 0) rfl
    go_enter Try.func33, Try.ntmps33
    go_wp2_with (first
      | ((with_reducible refine gd_make ?_); refine wpList_make_bytes rfl (.tmp 18) (.tmp 18) _ rfl w.heap.size hT (n := 0) (by rfl) (by rfl) (by omega) (Nat.le_refl _) ?_; intro v1 w1 ho1 hb1; have hm1 := hm.ext hb1; have hcell1 := hm1.cellv (i := 0) rfl)
      | ((with_reducible refine gd_copy ?_); refine wpList_copy_nothing rfl (.tmp 27) (.tmp 33) _ _ rfl _ hu HS.out _ _ 0 _ (L - at_) (c - at_) (own_isSlice ho1).choose_spec.choose_spec (by rfl) (Nat.min_zero _) ?_)
      | fail)
    go_ret
    exact ⟨v1, rfl, ho1, hb1⟩
  · have d1 : decide ((at_ : Int) < L) = false := decide_eq_false (by omega)
    have hcell := hm.cellv (i := 0) rfl
    go_enter Try.func33, Try.ntmps33
    go_wp2_with (first
      | ((with_reducible refine gd_make ?_); refine wpList_make_bytes rfl (.tmp 18) (.tmp 18) _ rfl w.heap.size hT (n := 0) (by rfl) (by rfl) (by omega) (Nat.le_refl _) ?_; intro v1 w1 ho1 hb1; have hm1 := hm.ext hb1; have hcell1 := hm1.cellv (i := 0) rfl)
      | fail)
    go_ret
    exact ⟨v1, rfl, ho1, hb1⟩
set_option maxRecDepth 100000 in
set_option maxHeartbeats 1000000 in
theorem Get_some (at_ n : Nat) (w : World) (g L c : Nat) (A : Option Addr) (l : List UInt8) (hL : L ≤ 1048576) (hn : 0 < n) (hfit : at_ + n ≤ L)
    (hm : Blk w g 35 #[.slice A L c]) (hl : Bytes w (.slice A L c) l) :
    Calls Try.prog 33 #[.pointer (some ⟨g, 0, none⟩), .int .i64 at_, .int .i64 n] w fun e w' => ∃ v, e = .returned v ∧ w'.ownsRow w.heap.size 5 1 v n (bv ((l.drop at_).take n)) ∧ Below w.heap.size w w' := by
  have hT := bytesTyM
  have hu := hT.1
  have HS := Lib.hid u8size
  obtain ⟨h2, h3⟩ : L ≤ c ∧ c ≤ maxLen := by
    obtain ⟨A', L', c', e1, h1, h2, h3, h4⟩ := id hl
    injection e1 with e1 e2 e3
    subst e1 e2 e3
    exact ⟨by omega, by omega⟩
  have h3 : c ≤ 9223372036854775807 := h3
  have d1 : decide ((at_ : Int) < L) = true := decide_eq_true (by omega)
  have hcell := hm.cellv (i := 0) rfl
  have hn1 : (n : Int) ≤ 1048576 := by omega
  have HK := Lib.hid (show n = Nat.min (L - at_) n from (Nat.min_eq_right (by omega)).symm)
  go_enter Try.func33, Try.ntmps33
  go_wp2_with (first
    | ((with_reducible refine gd_make ?_); refine wpList_make_bytes rfl (.tmp 18) (.tmp 18) _ rfl w.heap.size hT (n := n) (by rfl) (by rfl) (by omega) (Nat.le_refl _) ?_; intro v1 w1 ho1 hb1; have hm1 := hm.ext hb1; have hcell1 := hm1.cellv (i := 0) rfl; have HB := Bytes_from (hl.ext hb1) (k := at_) (by omega))
    | ((with_reducible refine gd_copy ?_); refine wpList_copy_into rfl (.tmp 27) (.tmp 33) _ _ rfl hu HS.out rfl (by rfl) hn ho1 HB n HK.out ?_; intro w2 ho2 hg2)
    | fail)
  have hb2 := below_own hb1 ho1 (Nat.le_refl _) hg2 hb1.size
  go_ret
  refine ⟨v1, rfl, ?_, hb2⟩
  have e : (List.replicate n (0 : UInt8)).drop n = [] := by simp
  rw [e, List.append_nil] at ho2
  exact ho2
theorem Put_neg (i : Int) (w : World) (g m c : Nat) (B : Option Addr) (_h1 : -9223372036854775808 ≤ i) (h2 : i < 0) :
    Calls Try.prog 34 #[.pointer (some ⟨g, 0, none⟩), .int .i64 i, .slice B m c] w fun e w' => e = .returned (.bool false) ∧ w = w' := by
  have d1 : decide (i < 0) = true := decide_eq_true h2
  clear h2
  go_enter Try.func34, Try.ntmps34
  go_wp2
  go_ret
  exact ⟨rfl, rfl⟩
theorem Put_nil (at_ : Nat) (w : World) (g c : Nat) (B : Option Addr) (h2 : (at_ : Int) ≤ 9223372036854775807) :
    Calls Try.prog 34 #[.pointer (some ⟨g, 0, none⟩), .int .i64 at_, .slice B 0 c] w fun e w' => e = .returned (.bool true) ∧ w = w' := by
  have d1 : decide ((at_ : Int) < 0) = false := decide_eq_false (by omega)
  clear h2
  go_enter Try.func34, Try.ntmps34
  go_wp2
  go_ret
  exact ⟨rfl, rfl⟩
theorem Put_no (at_ : Nat) (w : World) (g L c m c' : Nat) (A B : Option Addr) (hL : L ≤ 1048576) (h2 : (at_ : Int) ≤ 9223372036854775807) (hm0 : 0 < m) (hno : L < at_ + m)
    (hm : Blk w g 35 #[.slice A L c]) :
    Calls Try.prog 34 #[.pointer (some ⟨g, 0, none⟩), .int .i64 at_, .slice B m c'] w fun e w' => e = .returned (.bool false) ∧ w = w' := by
  have d1 : decide ((at_ : Int) < 0) = false := decide_eq_false (by omega)
  have d2 : decide ((0 : Int) < m) = true := decide_eq_true (by omega)
  have hcell := hm.cellv (i := 0) rfl
  by_cases h3 : L < at_
  · have d3 : decide ((L : Int) < at_) = true := decide_eq_true (by omega)
    go_enter Try.func34, Try.ntmps34
    go_wp2
    go_ret
    exact ⟨rfl, rfl⟩
  · have d3 : decide ((L : Int) < at_) = false := decide_eq_false (by omega)
    have d4 : decide ((L : Int) - at_ < m) = true := decide_eq_true (by omega)
    go_enter Try.func34, Try.ntmps34
    go_wp2
    go_ret
    exact ⟨rfl, rfl⟩
set_option maxRecDepth 100000 in
set_option maxHeartbeats 1000000 in
theorem Put_fit (at_ : Nat) (w : World) (g base L c m c' : Nat) (A B : Option Addr) (xs ls : List UInt8) (hL : L ≤ 1048576) (hm0 : 0 < m) (hfit : at_ + m ≤ L)
    (hm : Blk w g 35 #[.slice A L c]) (ho : w.ownsRow base 5 1 (.slice A L c) L (bv xs)) (hg : g < base) (hbs : base ≤ w.heap.size) (hb : Bytes w (.slice B m c') ls) :
    Calls Try.prog 34 #[.pointer (some ⟨g, 0, none⟩), .int .i64 at_, .slice B m c'] w fun e w' => e = .returned (.bool true) ∧
      Blk w' g 35 #[.slice A L c] ∧ w'.ownsRow base 5 1 (.slice A L c) L (bv (xs.take at_ ++ ls ++ xs.drop (at_ + m))) ∧ Below base w w' ∧ ∃ h, A = some ⟨h, 0, none⟩ ∧ w.grownBy w' (some h) := by
  obtain ⟨h, cap, e, hh1, hh2⟩ := own_pos ho (by omega)
  injection e with e1 _ e3
  subst e1 e3
  have hT := bytesTyM
  have hu := hT.1
  have HS := Lib.hid u8size
  have hLc : L ≤ c ∧ c ≤ 9223372036854775807 := by
    obtain ⟨_, _, _, e, _, h2, h3, _⟩ := Bytes.own ho
    injection e with e1 e2 e3
    subst e2 e3
    exact ⟨h2, h3⟩
  have hls : ls.length = m := by
    obtain ⟨_, _, _, e, h1, _⟩ := hb
    injection e with e1 e2 e3
    omega
  have HK := Lib.hid (show m = Nat.min m (L - at_) from (Nat.min_eq_left (by omega)).symm)
  have d1 : decide ((at_ : Int) < 0) = false := decide_eq_false (by omega)
  have d2 : decide ((0 : Int) < m) = true := decide_eq_true (by omega)
  have d3 : decide ((L : Int) < at_) = false := decide_eq_false (by omega)
  have d4 : decide ((L : Int) - at_ < m) = false := decide_eq_false (by omega)
  have hcell := hm.cellv (i := 0) rfl
  go_enter Try.func34, Try.ntmps34
  go_wp2_with (first
    | ((with_reducible refine gd_copy ?_); refine wpList_copy_row rfl (.tmp 43) (.tmp 44) _ _ rfl hu HS.out (g := h) (off := at_) (by rfl) (by rfl) ho hb m HK.out hfit ?_; intro w2 ho2 hg2)
    | fail)
  go_ret
  rw [List.take_of_length_le (l := ls) (by omega), List.append_assoc] at ho2
  have hb2 : Below base w w2 := below_own (Below.refl base w) ho (Nat.le_refl _) hg2 hbs
  exact ⟨rfl, hm.below hb2 hg, ho2, hb2, hg2⟩
end Go.Mun
