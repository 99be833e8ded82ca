/- 'MemKeeps' answers true at every input, and leaves what it was given. No condition. -/
import Derived.Test.YtpliedimdhilcaaMemAll
import Derived.Test.YtpliedimdhilcaaLaw
import Derived.Test.YtpliedimdhilcaaRows
import Derived.Deep.RegionHeld3
import Derived.BigQuiet
import Derived.Deep.Cut
import Derived.Test.YtpliedimdhilcaaRegion
namespace Go.Proofs.Ytpliedimdhilcaa.MemKeeps
open Go Go.RowKit Go.Mun Go.Proofs

theorem zero_at {n k : Nat} (h : k < (List.replicate n (0 : UInt8)).length) : (List.replicate n (0 : UInt8))[k] = 0 := List.getElem_replicate h
theorem isl_out {L at_ k : Nat} {ls : List UInt8} (h : at_ + ls.length ≤ L) (hk : k < L) (hn : ¬ (at_ ≤ k ∧ k < at_ + ls.length)) :
    ((List.replicate L (0 : UInt8)).take at_ ++ ls ++ (List.replicate L 0).drop (at_ + ls.length))[k]? = some 0 := by
  by_cases h1 : k < at_
  · rw [List.append_assoc, List.getElem?_append_left (by simp; omega), List.getElem?_take, if_pos h1, List.getElem?_replicate, if_pos hk]
  · rw [List.getElem?_append_right (by simp; omega)]
    simp only [List.length_append, List.length_take, List.length_replicate, List.getElem?_drop, List.getElem?_replicate]
    rw [if_pos (by omega)]
theorem isl_in {L at_ j : Nat} {ls : List UInt8} (h : at_ + ls.length ≤ L) (hj : j < ls.length) :
    ((List.replicate L (0 : UInt8)).take at_ ++ ls ++ (List.replicate L 0).drop (at_ + ls.length))[at_ + j]? = some ls[j] := by
  rw [List.append_assoc, List.getElem?_append_right (by simp; omega), List.getElem?_append_left (by simp; omega)]
  have : at_ + j - ((List.replicate L (0 : UInt8)).take at_).length = j := by simp; omega
  rw [this, List.getElem?_eq_getElem hj]
theorem isl_cut {L at_ : Nat} {ls : List UInt8} (h : at_ + ls.length ≤ L) :
    (((List.replicate L (0 : UInt8)).take at_ ++ ls ++ (List.replicate L 0).drop (at_ + ls.length)).drop at_).take ls.length = ls := by
  rw [List.append_assoc, List.drop_append_of_le_length (by simp; omega)]
  have : ((List.replicate L (0 : UInt8)).take at_).drop at_ = [] := by simp; omega
  rw [this, List.nil_append, List.take_left]
theorem byte_at {w : World} {A : Option Addr} {n c : Nat} {l : List UInt8} (h : Bytes w (.slice A n c) l) {k : Nat} {b : UInt8} (hk : l[k]? = some b) : ∃ ad, A = some ad ∧ w.cell? (ad.add k) = some (.int .u8 (b.toNat : Int)) := by
  obtain ⟨_, _, _, e, _, _, _, hr⟩ := h
  injection e with e1 e2 e3
  subst e1
  obtain ⟨hlt, e⟩ := List.getElem?_eq_some_iff.1 hk
  obtain ⟨ad, h1, h2⟩ := hr.byte hlt
  rw [e] at h2
  exact ⟨ad, h1, h2⟩
theorem zeros_at {L k : Nat} (hk : k < L) : (List.replicate L (0 : UInt8))[k]? = some 0 := by rw [List.getElem?_replicate, if_pos hk]

set_option maxRecDepth 100000 in
set_option maxHeartbeats 4000000 in
theorem walk_early (s i : Int) (w : World) (m c : Nat) (B : Option Addr) (_hc : c ≤ 9223372036854775807) (_hm : m ≤ c) (h : s < 0 ∨ 3000 < s ∨ 1000 < m) :
    Calls Try.prog 7 #[.int .i64 s, .int .i64 i, .slice B m c] w fun e w' => e = .returned (.bool true) ∧ Below w.heap.size w w' := by
  have CA := Lib.hid alive13
  by_cases h1 : s < 0
  · have d1 : decide (s < 0) = true := decide_eq_true h1
    clear h
    go_enter Try.func7, Try.ntmps7
    go_wp2_with (first
      | (go_at_call 14; refine (CA.out _).mono ?_; rintro e w1 ⟨rfl, hb1⟩)
      | fail)
    go_ret
    exact ⟨rfl, hb1⟩
  · have d1 : decide (s < 0) = false := decide_eq_false h1
    by_cases h2 : 3000 < s
    · have d2 : decide (3000 < s) = true := decide_eq_true h2
      clear h
      go_enter Try.func7, Try.ntmps7
      go_wp2_with (first
        | (go_at_call 14; refine (CA.out _).mono ?_; rintro e w1 ⟨rfl, hb1⟩)
        | fail)
      go_ret
      exact ⟨rfl, hb1⟩
    · have d2 : decide (3000 < s) = false := decide_eq_false h2
      have d3 : decide ((1000 : Int) < m) = true := decide_eq_true (by omega)
      clear h
      go_enter Try.func7, Try.ntmps7
      go_wp2_with (first
        | (go_at_call 14; refine (CA.out _).mono ?_; rintro e w1 ⟨rfl, hb1⟩)
        | fail)
      go_ret
      exact ⟨rfl, hb1⟩

def S21 (at_ m c : Nat) (B : Option Addr) (ls : List UInt8) : Nat → Value → World → Prop
  | 0, v, _ => v = .bool true
  | 1, v, _ => v = .bool false
  | 2, v, _ => v = .bool false
  | 3, v, _ => v = .int .i64 (at_ : Nat)
  | 4, v, _ => v = .slice B m c
  | 5, v, _ => v = .int .i64 (m : Nat)
  | 6, v, w => ∃ A' c', v = .slice A' m c' ∧ Bytes w (.slice A' m c') ls
  | 7, v, _ => v = .string ⟨ls.toArray⟩
  | 8, v, _ => v = .slice B m c
  | 9, v, _ => v = .string ⟨ls.toArray⟩
  | _, v, _ => v = .bool true
theorem S21_stays {at_ m c : Nat} {B : Option Addr} {ls : List UInt8} (i : Nat) (v : Value) (x y : World) (hb : Below x.heap.size x y) (h : S21 at_ m c B ls i v x) : S21 at_ m c B ls i v y := by
  match i with
  | 0 | 1 | 2 | 3 | 4 | 5 | 7 | 8 | 9 => exact h
  | 6 => obtain ⟨A', c', h1, h2⟩ := h; exact ⟨A', c', h1, h2.ext hb⟩
  | _ + 10 => exact h
theorem beq_str (l : List UInt8) : ((⟨l.toArray⟩ : ByteArray) == ⟨l.toArray⟩) = true := by rw [str_eq]; simp
theorem step_str {P : Program} {ops : Array Oper} {o : Oper} {a : Act} {w : World} {K : Act → World → Prop} {Q : Exit → Act → World → Prop} {E : Prop} (hw : Region.wanted o (yielded ops a.tmps) = true) (src dst : TypeId) (x : Operand)
    (ho : o.op = .convert src dst x) {v : Value} (hv : (convert src dst (a.eval x)).run P w = .ok v w) (h : K (a.put o.dst v) w) : if Region.wanted o (yielded ops a.tmps) = true then Oper.wp P o a w K Q else E := by
  rw [if_pos hw]
  unfold Oper.wp execOp
  simp only [ho, Sem.run_bind, Sem.run_pure, Result.andThen_ok, hv]
  exact h
theorem Put_nil_ (at_ m : Nat) (w : World) (g c : Nat) (B : Option Addr) (h2 : (at_ : Int) ≤ 9223372036854775807) (h0 : m = 0) :
    Calls Try.prog 34 #[.pointer (some ⟨g, 0, none⟩), .int .i64 at_, .slice B m c] w fun e w' => e = .returned (.bool true) ∧ w = w' := by
  subst h0
  exact Put_nil at_ w g c B h2

set_option maxRecDepth 100000 in
set_option maxHeartbeats 4000000 in
theorem walk_neg (s m c : Nat) (i : Int) (B : Option Addr) (ls : List UInt8) (w : World) (hs : s ≤ 3000) (hm : m ≤ 1000) (hi1 : -9223372036854775808 ≤ i) (hi : i < 0) (hb : Bytes w (.slice B m c) ls) :
    Calls Try.prog 7 #[.int .i64 (s : Nat), .int .i64 i, .slice B m c] w fun e w' => e = .returned (.bool true) ∧ Below w.heap.size w w' := by
  have hcm : m ≤ c ∧ c ≤ 9223372036854775807 ∧ ls.length = m := by
    obtain ⟨_, _, _, e, h1, h2, h3, _⟩ := hb
    injection e with e1 e2 e3
    subst e2 e3
    exact ⟨h2, h3, h1⟩
  have CA := Lib.hid alive13
  have zM := zMem
  have C0 := Lib.hid Of_zero
  have CS := Lib.hid (fun w => Of_nat s (by omega) w)
  obtain ⟨L, hL⟩ : ∃ L, L = 32 * ((s + 31) / 32) := ⟨_, rfl⟩
  have hLb : L ≤ 1048576 := by omega
  have HL := Lib.hid hL
  have hs1 : (s : Int) ≤ 3000 := by omega
  have hm1 : (m : Int) ≤ 1000 := by omega
  have tk1 : True := trivial
  have tk2 : True := trivial
  have tk3 : True := trivial
  have e1 : decide (0 ≤ i) = false := decide_eq_false (by omega)
  clear hL
  go_enter Try.func7, Try.ntmps7
  go_wp2_with (first
    | (go_at_call 14; refine (CA.out _).mono ?_; rintro e w1 ⟨rfl, hb1⟩; have hz1 := hb1.size)
    | ((with_reducible refine gd_alloc ?_); refine wpList_alloc_blk rfl 35 rfl zM ?_; intro w2 hx2 hb2 hl2; have hz2 := hx2.lt)
    | (go_at_call 16; have _t := tk1; refine (C0.out _).mono ?_; clear tk1; rintro e w3 ⟨rfl, hb3⟩)
    | (go_at_call 16; refine (CS.out _).mono ?_; rintro e w4 ⟨rfl, hb4⟩; have hb34 := below_step hb3 hb4; have hx4 := hx2.ext hb34; have hz4 := hb34.size; have hB4 := below_step (below_step hb1 hb2) hb34)
    | (go_at_call 15; refine (Grow_new s L _ _ (w1.heap.size + 1) (by omega) HL hx4 (Nat.lt_succ_self _) (by omega)).mono ?_; rintro e w5 ⟨⟨z, rfl⟩, A5, c5, hx5, ho5, hk5⟩; have hB5 := hB4.trans (hk5.below (B := w.heap.size) (by omega) (by omega)); have hz5 := hk5.size)
    | (go_at_call 19; have _t := tk2; refine (Size_any _ _ _ _ _ hx5).mono ?_; clear tk2; rintro e w6 ⟨rfl, rfl⟩)
    | (go_at_call 33; have _t := tk3; refine (Get_all _ _ _ _ _ _ hLb hx5 (Bytes.own ho5)).mono ?_; clear tk3; rintro e w7 ⟨A7, c7, rfl, ho7, hb7⟩; have hx7 := hx5.ext hb7; have hr7 := own_ext ho5 hb7; have hB7 := below_step hB5 hb7; have hz7 := hb7.size)
    | (go_at_call 34; refine (Put_neg i _ _ _ _ _ hi1 hi).mono ?_; rintro e w8 ⟨rfl, rfl⟩; have hx8 := hx7; have hr8 := hr7; have hw8 := ho7; have hB8 := hB7)
    | (go_at_call 33; refine (Get_all _ _ _ _ _ _ hLb hx8 (Bytes.own hr8)).mono ?_; rintro e w9 ⟨A9, c9, rfl, ho9, hb9⟩; have hx9 := hx8.ext hb9; have hr9 := Bytes.own (own_ext hr8 hb9); have hw9 := Bytes.own (own_ext hw8 hb9); have hi9 := Bytes.own ho9; have hB9 := below_step hB8 hb9; have hbb9 := hb.ext hB9)
    | (go_at_call 19; refine (Size_any _ _ _ _ _ hx9).mono ?_; rintro e w10 ⟨rfl, rfl⟩)
    | fail)
  go_loopw [14] (fun i wr => ∃ k : Nat, k ≤ L ∧ i = .int .i64 k ∧ wr = w9) (fun i _ => L - (intOf i).toNat)
  case atStart => exact ⟨0, Nat.zero_le _, rfl, rfl⟩
  case round =>
    obtain ⟨k, hk, rfl, rfl⟩ := hrel
    by_cases hlt : k < L
    · obtain ⟨ad7, rfl, q7⟩ := byte_at hw9 (zeros_at hlt)
      obtain ⟨ad9, rfl, q9⟩ := byte_at hi9 (zeros_at hlt)
      go_wp2
      go_roundw
      case rel => first | exact ⟨k + 1, by omega, by go_num, by first | trivial | rfl⟩ | ((repeat apply Exists.intro); exact ⟨⟨k + 1, by omega, by go_num, by first | trivial | rfl⟩, rfl⟩)
      case measure => simp [intOf]; omega
    · obtain rfl : k = L := by omega
      clear hw9 hi9 hbb9 hr9
      go_upto_region 21 with (fail)
      go_quiet (fail)
      go_wp2
      go_ret
      exact ⟨rfl, below_drewN hB9 _⟩

set_option maxRecDepth 100000 in
set_option maxHeartbeats 4000000 in
theorem walk_no1 (s m c at_ : Nat) (B : Option Addr) (ls : List UInt8) (w : World) (hs : s ≤ 3000) (hm : m ≤ 1000) (hat : (at_ : Int) ≤ 9223372036854775807) (hm0 : 0 < m) (hfar : 32 * ((s + 31) / 32) < at_) (hb : Bytes w (.slice B m c) ls) :
    Calls Try.prog 7 #[.int .i64 (s : Nat), .int .i64 (at_ : Nat), .slice B m c] w fun e w' => e = .returned (.bool true) ∧ Below w.heap.size w w' := by
  have hcm : m ≤ c ∧ c ≤ 9223372036854775807 ∧ ls.length = m := by
    obtain ⟨_, _, _, e, h1, h2, h3, _⟩ := hb
    injection e with e1 e2 e3
    subst e2 e3
    exact ⟨h2, h3, h1⟩
  have CA := Lib.hid alive13
  have zM := zMem
  have C0 := Lib.hid Of_zero
  have CS := Lib.hid (fun w => Of_nat s (by omega) w)
  obtain ⟨L, hL⟩ : ∃ L, L = 32 * ((s + 31) / 32) := ⟨_, rfl⟩
  have hLb : L ≤ 1048576 := by omega
  have HL := Lib.hid hL
  have hs1 : (s : Int) ≤ 3000 := by omega
  have hm1 : (m : Int) ≤ 1000 := by omega
  have tk1 : True := trivial
  have tk2 : True := trivial
  have tk3 : True := trivial
  have e2 : decide ((m : Int) = 0) = false := decide_eq_false (by omega)
  have e3 : decide ((at_ : Int) ≤ L) = false := decide_eq_false (by omega)
  have e2' : ((m : Int) == 0) = false := beq_eq_false_iff_ne.2 (by omega)
  have e3' : decide (at_ ≤ L) = false := decide_eq_false (by omega)
  have hno : L < at_ + m := by omega
  clear hL
  go_enter Try.func7, Try.ntmps7
  go_wp2_with (first
    | (go_at_call 14; refine (CA.out _).mono ?_; rintro e w1 ⟨rfl, hb1⟩; have hz1 := hb1.size)
    | ((with_reducible refine gd_alloc ?_); refine wpList_alloc_blk rfl 35 rfl zM ?_; intro w2 hx2 hb2 hl2; have hz2 := hx2.lt)
    | (go_at_call 16; have _t := tk1; refine (C0.out _).mono ?_; clear tk1; rintro e w3 ⟨rfl, hb3⟩)
    | (go_at_call 16; refine (CS.out _).mono ?_; rintro e w4 ⟨rfl, hb4⟩; have hb34 := below_step hb3 hb4; have hx4 := hx2.ext hb34; have hz4 := hb34.size; have hB4 := below_step (below_step hb1 hb2) hb34)
    | (go_at_call 15; refine (Grow_new s L _ _ (w1.heap.size + 1) (by omega) HL hx4 (Nat.lt_succ_self _) (by omega)).mono ?_; rintro e w5 ⟨⟨z, rfl⟩, A5, c5, hx5, ho5, hk5⟩; have hB5 := hB4.trans (hk5.below (B := w.heap.size) (by omega) (by omega)); have hz5 := hk5.size)
    | (go_at_call 19; have _t := tk2; refine (Size_any _ _ _ _ _ hx5).mono ?_; clear tk2; rintro e w6 ⟨rfl, rfl⟩)
    | (go_at_call 33; have _t := tk3; refine (Get_all _ _ _ _ _ _ hLb hx5 (Bytes.own ho5)).mono ?_; clear tk3; rintro e w7 ⟨A7, c7, rfl, ho7, hb7⟩; have hx7 := hx5.ext hb7; have hr7 := own_ext ho5 hb7; have hB7 := below_step hB5 hb7; have hz7 := hb7.size)
    | (go_at_call 34; refine (Put_no at_ _ _ L _ m _ _ _ hLb hat hm0 hno hx7).mono ?_; rintro e w8 ⟨rfl, rfl⟩; have hx8 := hx7; have hr8 := hr7; have hw8 := ho7; have hB8 := hB7)
    | (go_at_call 33; refine (Get_all _ _ _ _ _ _ hLb hx8 (Bytes.own hr8)).mono ?_; rintro e w9 ⟨A9, c9, rfl, ho9, hb9⟩; have hx9 := hx8.ext hb9; have hr9 := Bytes.own (own_ext hr8 hb9); have hw9 := Bytes.own (own_ext hw8 hb9); have hi9 := Bytes.own ho9; have hB9 := below_step hB8 hb9; have hbb9 := hb.ext hB9)
    | (go_at_call 19; refine (Size_any _ _ _ _ _ hx9).mono ?_; rintro e w10 ⟨rfl, rfl⟩)
    | fail)
  go_loopw [14] (fun i wr => ∃ k : Nat, k ≤ L ∧ i = .int .i64 k ∧ wr = w9) (fun i _ => L - (intOf i).toNat)
  case atStart => exact ⟨0, Nat.zero_le _, rfl, rfl⟩
  case round =>
    obtain ⟨k, hk, rfl, rfl⟩ := hrel
    by_cases hlt : k < L
    · obtain ⟨ad7, rfl, q7⟩ := byte_at hw9 (zeros_at hlt)
      obtain ⟨ad9, rfl, q9⟩ := byte_at hi9 (zeros_at hlt)
      go_wp2
      go_roundw
      case rel => first | exact ⟨k + 1, by omega, by go_num, by first | trivial | rfl⟩ | ((repeat apply Exists.intro); exact ⟨⟨k + 1, by omega, by go_num, by first | trivial | rfl⟩, rfl⟩)
      case measure => simp [intOf]; omega
    · obtain rfl : k = L := by omega
      clear hw9 hi9 hbb9 hr9
      go_upto_region 21 with (fail)
      go_quiet (fail)
      go_wp2
      go_ret
      exact ⟨rfl, below_drewN hB9 _⟩

set_option maxRecDepth 100000 in
set_option maxHeartbeats 4000000 in
theorem walk_no2 (s m c at_ : Nat) (B : Option Addr) (ls : List UInt8) (w : World) (hs : s ≤ 3000) (hm : m ≤ 1000) (hat : (at_ : Int) ≤ 9223372036854775807) (hm0 : 0 < m) (hnear : at_ ≤ 32 * ((s + 31) / 32)) (hfar : 32 * ((s + 31) / 32) < at_ + m) (hb : Bytes w (.slice B m c) ls) :
    Calls Try.prog 7 #[.int .i64 (s : Nat), .int .i64 (at_ : Nat), .slice B m c] w fun e w' => e = .returned (.bool true) ∧ Below w.heap.size w w' := by
  have hcm : m ≤ c ∧ c ≤ 9223372036854775807 ∧ ls.length = m := by
    obtain ⟨_, _, _, e, h1, h2, h3, _⟩ := hb
    injection e with e1 e2 e3
    subst e2 e3
    exact ⟨h2, h3, h1⟩
  have CA := Lib.hid alive13
  have zM := zMem
  have C0 := Lib.hid Of_zero
  have CS := Lib.hid (fun w => Of_nat s (by omega) w)
  obtain ⟨L, hL⟩ : ∃ L, L = 32 * ((s + 31) / 32) := ⟨_, rfl⟩
  have hLb : L ≤ 1048576 := by omega
  have HL := Lib.hid hL
  have hs1 : (s : Int) ≤ 3000 := by omega
  have hm1 : (m : Int) ≤ 1000 := by omega
  have tk1 : True := trivial
  have tk2 : True := trivial
  have tk3 : True := trivial
  have e2 : decide ((m : Int) = 0) = false := decide_eq_false (by omega)
  have e3 : decide ((at_ : Int) ≤ L) = true := decide_eq_true (by omega)
  have e4 : decide ((m : Int) ≤ (L : Int) - at_) = false := decide_eq_false (by omega)
  have e2' : ((m : Int) == 0) = false := beq_eq_false_iff_ne.2 (by omega)
  have e3' : decide (at_ ≤ L) = true := decide_eq_true (by omega)
  have hno : L < at_ + m := by omega
  clear hL
  go_enter Try.func7, Try.ntmps7
  go_wp2_with (first
    | (go_at_call 14; refine (CA.out _).mono ?_; rintro e w1 ⟨rfl, hb1⟩; have hz1 := hb1.size)
    | ((with_reducible refine gd_alloc ?_); refine wpList_alloc_blk rfl 35 rfl zM ?_; intro w2 hx2 hb2 hl2; have hz2 := hx2.lt)
    | (go_at_call 16; have _t := tk1; refine (C0.out _).mono ?_; clear tk1; rintro e w3 ⟨rfl, hb3⟩)
    | (go_at_call 16; refine (CS.out _).mono ?_; rintro e w4 ⟨rfl, hb4⟩; have hb34 := below_step hb3 hb4; have hx4 := hx2.ext hb34; have hz4 := hb34.size; have hB4 := below_step (below_step hb1 hb2) hb34)
    | (go_at_call 15; refine (Grow_new s L _ _ (w1.heap.size + 1) (by omega) HL hx4 (Nat.lt_succ_self _) (by omega)).mono ?_; rintro e w5 ⟨⟨z, rfl⟩, A5, c5, hx5, ho5, hk5⟩; have hB5 := hB4.trans (hk5.below (B := w.heap.size) (by omega) (by omega)); have hz5 := hk5.size)
    | (go_at_call 19; have _t := tk2; refine (Size_any _ _ _ _ _ hx5).mono ?_; clear tk2; rintro e w6 ⟨rfl, rfl⟩)
    | (go_at_call 33; have _t := tk3; refine (Get_all _ _ _ _ _ _ hLb hx5 (Bytes.own ho5)).mono ?_; clear tk3; rintro e w7 ⟨A7, c7, rfl, ho7, hb7⟩; have hx7 := hx5.ext hb7; have hr7 := own_ext ho5 hb7; have hB7 := below_step hB5 hb7; have hz7 := hb7.size)
    | (go_at_call 34; refine (Put_no at_ _ _ L _ m _ _ _ hLb hat hm0 hno hx7).mono ?_; rintro e w8 ⟨rfl, rfl⟩; have hx8 := hx7; have hr8 := hr7; have hw8 := ho7; have hB8 := hB7)
    | (go_at_call 33; refine (Get_all _ _ _ _ _ _ hLb hx8 (Bytes.own hr8)).mono ?_; rintro e w9 ⟨A9, c9, rfl, ho9, hb9⟩; have hx9 := hx8.ext hb9; have hr9 := Bytes.own (own_ext hr8 hb9); have hw9 := Bytes.own (own_ext hw8 hb9); have hi9 := Bytes.own ho9; have hB9 := below_step hB8 hb9; have hbb9 := hb.ext hB9)
    | (go_at_call 19; refine (Size_any _ _ _ _ _ hx9).mono ?_; rintro e w10 ⟨rfl, rfl⟩)
    | fail)
  go_loopw [14] (fun i wr => ∃ k : Nat, k ≤ L ∧ i = .int .i64 k ∧ wr = w9) (fun i _ => L - (intOf i).toNat)
  case atStart => exact ⟨0, Nat.zero_le _, rfl, rfl⟩
  case round =>
    obtain ⟨k, hk, rfl, rfl⟩ := hrel
    by_cases hlt : k < L
    · obtain ⟨ad7, rfl, q7⟩ := byte_at hw9 (zeros_at hlt)
      obtain ⟨ad9, rfl, q9⟩ := byte_at hi9 (zeros_at hlt)
      go_wp2
      go_roundw
      case rel => first | exact ⟨k + 1, by omega, by go_num, by first | trivial | rfl⟩ | ((repeat apply Exists.intro); exact ⟨⟨k + 1, by omega, by go_num, by first | trivial | rfl⟩, rfl⟩)
      case measure => simp [intOf]; omega
    · obtain rfl : k = L := by omega
      clear hw9 hi9 hbb9 hr9
      go_upto_region 21 with (fail)
      go_quiet (fail)
      go_wp2
      go_ret
      exact ⟨rfl, below_drewN hB9 _⟩

set_option maxRecDepth 100000 in
set_option maxHeartbeats 4000000 in
theorem walk_nil (s c at_ : Nat) (B : Option Addr) (ls : List UInt8) (w : World) (hs : s ≤ 3000) (hat : (at_ : Int) ≤ 9223372036854775807)  (hb : Bytes w (.slice B 0 c) ls) :
    Calls Try.prog 7 #[.int .i64 (s : Nat), .int .i64 (at_ : Nat), .slice B 0 c] w fun e w' => e = .returned (.bool true) ∧ Below w.heap.size w w' := by
  have hcm : 0 ≤ c ∧ c ≤ 9223372036854775807 ∧ ls.length = 0 := by
    obtain ⟨_, _, _, e, h1, h2, h3, _⟩ := hb
    injection e with e1 e2 e3
    subst e2 e3
    exact ⟨h2, h3, h1⟩
  have CA := Lib.hid alive13
  have zM := zMem
  have C0 := Lib.hid Of_zero
  have CS := Lib.hid (fun w => Of_nat s (by omega) w)
  obtain ⟨L, hL⟩ : ∃ L, L = 32 * ((s + 31) / 32) := ⟨_, rfl⟩
  have hLb : L ≤ 1048576 := by omega
  have HL := Lib.hid hL
  have hs1 : (s : Int) ≤ 3000 := by omega
  have tk1 : True := trivial
  have tk2 : True := trivial
  have tk3 : True := trivial
  have HS := Lib.hid (fun (w : World) (A : Option Addr) (n c : Nat) (l : List UInt8) (h : Bytes w (.slice A n c) l) => run_str (P := Try.prog) (src := 26) (dst := 9) h Try.underlying26 Try.underlying5 Try.underlying9)
  have HE := Lib.hid (show ls = [] from List.eq_nil_of_length_eq_zero (by omega))
  have HC := Lib.hid (show ((List.replicate L (0 : UInt8)).drop at_).take 0 = ls by rw [HE.out]; rfl)
  clear hL
  go_enter Try.func7, Try.ntmps7
  go_wp2_with (first
    | (go_at_call 14; refine (CA.out _).mono ?_; rintro e w1 ⟨rfl, hb1⟩; have hz1 := hb1.size)
    | ((with_reducible refine gd_alloc ?_); refine wpList_alloc_blk rfl 35 rfl zM ?_; intro w2 hx2 hb2 hl2; have hz2 := hx2.lt)
    | (go_at_call 16; have _t := tk1; refine (C0.out _).mono ?_; clear tk1; rintro e w3 ⟨rfl, hb3⟩)
    | (go_at_call 16; refine (CS.out _).mono ?_; rintro e w4 ⟨rfl, hb4⟩; have hb34 := below_step hb3 hb4; have hx4 := hx2.ext hb34; have hz4 := hb34.size; have hB4 := below_step (below_step hb1 hb2) hb34)
    | (go_at_call 15; refine (Grow_new s L _ _ (w1.heap.size + 1) (by omega) HL hx4 (Nat.lt_succ_self _) (by omega)).mono ?_; rintro e w5 ⟨⟨z, rfl⟩, A5, c5, hx5, ho5, hk5⟩; have hB5 := hB4.trans (hk5.below (B := w.heap.size) (by omega) (by omega)); have hz5 := hk5.size)
    | (go_at_call 19; have _t := tk2; refine (Size_any _ _ _ _ _ hx5).mono ?_; clear tk2; rintro e w6 ⟨rfl, rfl⟩)
    | (go_at_call 33; have _t := tk3; refine (Get_all _ _ _ _ _ _ hLb hx5 (Bytes.own ho5)).mono ?_; clear tk3; rintro e w7 ⟨A7, c7, rfl, ho7, hb7⟩; have hx7 := hx5.ext hb7; have hr7 := own_ext ho5 hb7; have hB7 := below_step hB5 hb7; have hz7 := hb7.size)
    | (go_at_call 34; refine (Put_nil at_ _ _ _ _ hat).mono ?_; rintro e w8 ⟨rfl, rfl⟩; have hx8 := hx7; have hr8 := hr7; have hw8 := ho7; have hB8 := hB7)
    | (go_at_call 33; refine (Get_all _ _ _ _ _ _ hLb hx8 (Bytes.own hr8)).mono ?_; rintro e w9 ⟨A9, c9, rfl, ho9, hb9⟩; have hx9 := hx8.ext hb9; have hr9 := Bytes.own (own_ext hr8 hb9); have hw9 := Bytes.own (own_ext hw8 hb9); have hi9 := Bytes.own ho9; have hB9 := below_step hB8 hb9; have hbb9 := hb.ext hB9)
    | (go_at_call 19; refine (Size_any _ _ _ _ _ hx9).mono ?_; rintro e w10 ⟨rfl, rfl⟩)
    | fail)
  go_loopw [14] (fun i wr => ∃ k : Nat, k ≤ L ∧ i = .int .i64 k ∧ wr = w9) (fun i _ => L - (intOf i).toNat)
  case atStart => exact ⟨0, Nat.zero_le _, rfl, rfl⟩
  case round =>
    obtain ⟨k, hk, rfl, rfl⟩ := hrel
    by_cases hlt : k < L
    · obtain ⟨ad7, rfl, q7⟩ := byte_at hw9 (zeros_at hlt)
      obtain ⟨ad9, rfl, q9⟩ := byte_at hi9 (zeros_at hlt)
      by_cases ha : at_ ≤ k
      · have f1 : decide ((at_ : Int) ≤ k) = true := decide_eq_true (by omega)
        have f2 : decide ((k : Int) - at_ < 0) = false := decide_eq_false (by omega)
        go_wp2
        go_roundw
        case rel => first | exact ⟨k + 1, by omega, by go_num, by first | trivial | rfl⟩ | ((repeat apply Exists.intro); exact ⟨⟨k + 1, by omega, by go_num, by first | trivial | rfl⟩, rfl⟩)
        case measure => simp [intOf]; omega
      · have f1 : decide ((at_ : Int) ≤ k) = false := decide_eq_false (by omega)
        go_wp2
        go_roundw
        case rel => first | exact ⟨k + 1, by omega, by go_num, by first | trivial | rfl⟩ | ((repeat apply Exists.intro); exact ⟨⟨k + 1, by omega, by go_num, by first | trivial | rfl⟩, rfl⟩)
        case measure => simp [intOf]; omega
    · obtain rfl : k = L := by omega
      go_upto_region 21 with (fail)
      have hbb9d : Bytes wr.drew (.slice B 0 c) ls := hbb9
      have hr9d : Bytes wr.drew (.slice _ _ _) _ := hr9
      have hx9d := hx9.drew
      have hB9d := hB9.drew
      have hse := beq_str ls
      refine wp_region_each (by kernel_rfl) (by kernel_rfl) (by kernel_rfl) (fun w w' => Below w.heap.size w w') (fun w => Below.refl _ _) (fun x y z h1 h2 => below_step h1 h2) (S21 at_ 0 c B ls) S21_stays ?_ ?_
      · simp only [EachStep]
        refine ⟨?_, ?_, ?_, ?_, ?_, ?_, ?_, ?_, ?_, ?_, ?_, ?_, ?_, trivial⟩
        · intro V w' hb hd
          clear hd
          refine ⟨?_⟩
          simp only [fill]
          go_wp2
          exact ⟨rfl, rfl, Below.refl _ _, rfl⟩
        · intro V w' hb hd
          simp only [DepFacts, S21, Region.binds, forall_const, and_true] at hd
          refine ⟨?_⟩
          simp only [fill, hd]
          clear hd
          go_wp2
          exact ⟨rfl, rfl, Below.refl _ _, rfl⟩
        · intro V w' hb hd
          simp only [DepFacts, S21, Region.binds, forall_const, and_true] at hd
          refine ⟨?_⟩
          simp only [fill, hd]
          clear hd
          go_wp2
          exact ⟨rfl, rfl, Below.refl _ _, rfl⟩
        · intro V w' hb hd
          simp only [DepFacts, S21, Region.binds, forall_const, and_true] at hd
          refine ⟨?_⟩
          simp only [fill, hd]
          clear hd
          go_wp2
          exact ⟨rfl, rfl, Below.refl _ _, rfl⟩
        · intro V w' hb hd
          simp only [DepFacts, S21, Region.binds, forall_const, and_true] at hd
          refine ⟨?_⟩
          simp only [fill, hd]
          clear hd
          go_wp2
          exact ⟨rfl, rfl, Below.refl _ _, rfl⟩
        · intro V w' hb hd
          simp only [DepFacts, S21, Region.binds, forall_const, and_true] at hd
          refine ⟨?_⟩
          simp only [fill, hd]
          clear hd
          go_wp2
          exact ⟨rfl, rfl, Below.refl _ _, rfl⟩
        · intro V w' hb hd
          simp only [DepFacts, S21, Region.binds, forall_const, and_true] at hd
          refine ⟨?_⟩
          simp only [fill, hd]
          clear hd
          go_wp2_with fail
          refine (Get_at at_ 0 _ _ _ _ _ _ hLb hat (.inl rfl) (hx9d.ext hb) (hr9d.ext hb)).mono ?_
          rintro e w11 ⟨A11, c11, rfl, ho11, hb11⟩
          rw [HC.out] at ho11
          go_wp2
          exact ⟨rfl, rfl, hb11, A11, c11, rfl, Bytes.own ho11⟩
        · intro V w' hb hd
          simp only [DepFacts, S21, Region.binds, forall_const, and_true] at hd
          have h6 : ∃ A' c', V 6 = .slice A' 0 c' ∧ Bytes w' (.slice A' 0 c') ls := by first | exact hd.1 | exact hd.2 | exact hd
          have h2 : V 2 = .bool false := by first | exact hd.1 | exact hd.2
          clear hd
          obtain ⟨A', c', h6, hby⟩ := h6
          have q := HS.out _ _ _ _ _ hby
          refine ⟨?_⟩
          simp only [fill, h6, h2]
          clear h6 h2
          go_wp2
          exact ⟨rfl, rfl, Below.refl _ _, rfl⟩
        · intro V w' hb hd
          simp only [DepFacts, S21, Region.binds, forall_const, and_true] at hd
          refine ⟨?_⟩
          simp only [fill, hd]
          clear hd
          go_wp2
          exact ⟨rfl, rfl, Below.refl _ _, rfl⟩
        · intro V w' hb hd
          simp only [DepFacts, S21, Region.binds, forall_const, and_true] at hd
          have q := HS.out _ _ _ _ _ (hbb9d.ext hb)
          refine ⟨?_⟩
          simp only [fill, hd]
          clear hd
          go_wp2
          exact ⟨rfl, rfl, Below.refl _ _, rfl⟩
        · intro V w' hb hd
          simp only [DepFacts, S21, Region.binds, forall_const, and_true] at hd
          refine ⟨?_⟩
          simp only [fill, hd]
          clear hd
          go_wp2
          exact ⟨rfl, rfl, Below.refl _ _, rfl⟩
        · intro V w' hb hd
          simp only [DepFacts, S21, Region.binds, forall_const, and_true] at hd
          refine ⟨?_⟩
          simp only [fill, hd]
          clear hd
          go_wp2
          exact ⟨rfl, rfl, Below.refl _ _, rfl⟩
        · intro V w' hb hd
          simp only [DepFacts, S21, Region.binds, forall_const, and_true] at hd
          refine ⟨?_⟩
          simp only [fill, hd]
          clear hd
          go_wp2
          exact ⟨rfl, rfl, Below.refl _ _, rfl⟩
      · intro V w' hb hV
        simp only [SFacts, S21] at hV
        have h12 := hV.2.2.2.2.2.2.2.2.2.2.2.2.1
        clear hV
        simp only [fill, h12]
        go_wp2
        go_ret
        exact ⟨by simp [Act.put], below_step hB9d hb⟩

set_option maxRecDepth 100000 in
set_option maxHeartbeats 4000000 in
theorem walk_fit (s m c at_ : Nat) (B : Option Addr) (ls : List UInt8) (w : World) (hs : s ≤ 3000) (hm : m ≤ 1000) (hat : (at_ : Int) ≤ 9223372036854775807) (hm0 : 0 < m) (hfit0 : at_ + m ≤ 32 * ((s + 31) / 32)) (hb : Bytes w (.slice B m c) ls) :
    Calls Try.prog 7 #[.int .i64 (s : Nat), .int .i64 (at_ : Nat), .slice B m c] w fun e w' => e = .returned (.bool true) ∧ Below w.heap.size w w' := by
  have hcm : m ≤ c ∧ c ≤ 9223372036854775807 ∧ ls.length = m := by
    obtain ⟨_, _, _, e, h1, h2, h3, _⟩ := hb
    injection e with e1 e2 e3
    subst e2 e3
    exact ⟨h2, h3, h1⟩
  have CA := Lib.hid alive13
  have zM := zMem
  have C0 := Lib.hid Of_zero
  have CS := Lib.hid (fun w => Of_nat s (by omega) w)
  obtain ⟨L, hL⟩ : ∃ L, L = 32 * ((s + 31) / 32) := ⟨_, rfl⟩
  have hLb : L ≤ 1048576 := by omega
  have HL := Lib.hid hL
  have hs1 : (s : Int) ≤ 3000 := by omega
  have hm1 : (m : Int) ≤ 1000 := by omega
  have tk1 : True := trivial
  have tk2 : True := trivial
  have tk3 : True := trivial
  have HS := Lib.hid (fun (w : World) (A : Option Addr) (n c : Nat) (l : List UInt8) (h : Bytes w (.slice A n c) l) => run_str (P := Try.prog) (src := 26) (dst := 9) h Try.underlying26 Try.underlying5 Try.underlying9)
  have hfit : at_ + m ≤ L := by omega
  have e2 : decide ((m : Int) = 0) = false := decide_eq_false (by omega)
  have e3 : decide ((at_ : Int) ≤ L) = true := decide_eq_true (by omega)
  have e4 : decide ((m : Int) ≤ (L : Int) - at_) = true := decide_eq_true (by omega)
  obtain ⟨isl, hisl⟩ : ∃ isl, isl = (List.replicate L (0 : UInt8)).take at_ ++ ls ++ (List.replicate L 0).drop (at_ + m) := ⟨_, rfl⟩
  have HI := Lib.hid hisl
  have hfl : at_ + ls.length ≤ L := by omega
  have HIN := Lib.hid (fun (j : Nat) (b : UInt8) (hj : ls[j]? = some b) => show isl[at_ + j]? = some b by
    obtain ⟨h1, h2⟩ := List.getElem?_eq_some_iff.1 hj
    rw [hisl, ← hcm.2.2, isl_in hfl h1, h2])
  have HOUT := Lib.hid (fun (k : Nat) (hk : k < L) (hn : ¬ (at_ ≤ k ∧ k < at_ + m)) => show isl[k]? = some 0 by
    rw [hisl, ← hcm.2.2]; exact isl_out hfl hk (by rw [hcm.2.2]; exact hn))
  have HC := Lib.hid (show (isl.drop at_).take m = ls by rw [hisl, ← hcm.2.2]; exact isl_cut hfl)
  clear hisl hfl
  clear hL
  go_enter Try.func7, Try.ntmps7
  go_wp2_with (first
    | (go_at_call 14; refine (CA.out _).mono ?_; rintro e w1 ⟨rfl, hb1⟩; have hz1 := hb1.size)
    | ((with_reducible refine gd_alloc ?_); refine wpList_alloc_blk rfl 35 rfl zM ?_; intro w2 hx2 hb2 hl2; have hz2 := hx2.lt)
    | (go_at_call 16; have _t := tk1; refine (C0.out _).mono ?_; clear tk1; rintro e w3 ⟨rfl, hb3⟩)
    | (go_at_call 16; refine (CS.out _).mono ?_; rintro e w4 ⟨rfl, hb4⟩; have hb34 := below_step hb3 hb4; have hx4 := hx2.ext hb34; have hz4 := hb34.size; have hB4 := below_step (below_step hb1 hb2) hb34)
    | (go_at_call 15; refine (Grow_new s L _ _ (w1.heap.size + 1) (by omega) HL hx4 (Nat.lt_succ_self _) (by omega)).mono ?_; rintro e w5 ⟨⟨z, rfl⟩, A5, c5, hx5, ho5, hk5⟩; have hB5 := hB4.trans (hk5.below (B := w.heap.size) (by omega) (by omega)); have hz5 := hk5.size)
    | (go_at_call 19; have _t := tk2; refine (Size_any _ _ _ _ _ hx5).mono ?_; clear tk2; rintro e w6 ⟨rfl, rfl⟩)
    | (go_at_call 33; have _t := tk3; refine (Get_all _ _ _ _ _ _ hLb hx5 (Bytes.own ho5)).mono ?_; clear tk3; rintro e w7 ⟨A7, c7, rfl, ho7, hb7⟩; have hx7 := hx5.ext hb7; have hr7 := own_ext ho5 hb7; have hB7 := below_step hB5 hb7; have hz7 := hb7.size)
    | (go_at_call 34; refine (Put_fit at_ _ _ (w1.heap.size + 1) L _ m _ _ _ (List.replicate L 0) ls hLb hm0 hfit hx7 hr7 (Nat.lt_succ_self _) (by omega) (hb.ext hB7)).mono ?_; rintro e w8 ⟨rfl, hx8, hr8, hk8, h, rfl, hg8⟩; rw [← HI.out] at hr8; have hw8 := own_kept ho7 hg8 (ho5.lt h rfl).2; have hB8 := hB7.trans (hk8.mono (by omega)))
    | (go_at_call 33; refine (Get_all _ _ _ _ _ _ hLb hx8 (Bytes.own hr8)).mono ?_; rintro e w9 ⟨A9, c9, rfl, ho9, hb9⟩; have hx9 := hx8.ext hb9; have hr9 := Bytes.own (own_ext hr8 hb9); have hw9 := Bytes.own (own_ext hw8 hb9); have hi9 := Bytes.own ho9; have hB9 := below_step hB8 hb9; have hbb9 := hb.ext hB9)
    | (go_at_call 19; refine (Size_any _ _ _ _ _ hx9).mono ?_; rintro e w10 ⟨rfl, rfl⟩)
    | fail)
  go_loopw [14] (fun i wr => ∃ k : Nat, k ≤ L ∧ i = .int .i64 k ∧ wr = w9) (fun i _ => L - (intOf i).toNat)
  case atStart => exact ⟨0, Nat.zero_le _, rfl, rfl⟩
  case round =>
    obtain ⟨k, hk, rfl, rfl⟩ := hrel
    by_cases hlt : k < L
    · obtain ⟨ad7, rfl, q7⟩ := byte_at hw9 (zeros_at hlt)
      by_cases ha : at_ ≤ k
      · have f1 : decide ((at_ : Int) ≤ k) = true := decide_eq_true (by omega)
        by_cases hj : k < at_ + m
        · obtain ⟨j, hkj⟩ : ∃ j, k = at_ + j := ⟨k - at_, by omega⟩
          have hjl : j < ls.length := by omega
          obtain ⟨b, hbj⟩ : ∃ b, ls[j]? = some b := ⟨ls[j], List.getElem?_eq_getElem hjl⟩
          have hkb : isl[k]? = some b := by rw [hkj]; exact HIN.out j b hbj
          obtain ⟨ad9, rfl, q9⟩ := byte_at hi9 hkb
          obtain ⟨adb, rfl, qb⟩ := byte_at hbb9 hbj
          clear hkb hbj
          have f2 : (k : Int) - at_ = j := by omega
          have f3 : decide ((j : Int) < m) = true := decide_eq_true (by omega)
          have hjm : j < m := by omega
          clear hkj
          generalize b.toNat = x at *
          go_wp2
          go_roundw
          case rel => first | exact ⟨k + 1, by omega, by go_num, by first | trivial | rfl⟩ | ((repeat apply Exists.intro); exact ⟨⟨k + 1, by omega, by go_num, by first | trivial | rfl⟩, rfl⟩)
          case measure => simp [intOf]; omega
        · obtain ⟨ad9, rfl, q9⟩ := byte_at hi9 (HOUT.out k hlt (by omega))
          have f2 : decide ((k : Int) - at_ < m) = false := decide_eq_false (by omega)
          go_wp2
          go_roundw
          case rel => first | exact ⟨k + 1, by omega, by go_num, by first | trivial | rfl⟩ | ((repeat apply Exists.intro); exact ⟨⟨k + 1, by omega, by go_num, by first | trivial | rfl⟩, rfl⟩)
          case measure => simp [intOf]; omega
      · obtain ⟨ad9, rfl, q9⟩ := byte_at hi9 (HOUT.out k hlt (by omega))
        have f1 : decide ((at_ : Int) ≤ k) = false := decide_eq_false (by omega)
        go_wp2
        go_roundw
        case rel => first | exact ⟨k + 1, by omega, by go_num, by first | trivial | rfl⟩ | ((repeat apply Exists.intro); exact ⟨⟨k + 1, by omega, by go_num, by first | trivial | rfl⟩, rfl⟩)
        case measure => simp [intOf]; omega
    · obtain rfl : k = L := by omega
      go_upto_region 21 with (fail)
      have hbb9d : Bytes wr.drew (.slice B m c) ls := hbb9
      have hr9d : Bytes wr.drew (.slice _ _ _) _ := hr9
      have hx9d := hx9.drew
      have hB9d := hB9.drew
      have hse := beq_str ls
      refine wp_region_each (by kernel_rfl) (by kernel_rfl) (by kernel_rfl) (fun w w' => Below w.heap.size w w') (fun w => Below.refl _ _) (fun x y z h1 h2 => below_step h1 h2) (S21 at_ m c B ls) S21_stays ?_ ?_
      · simp only [EachStep]
        refine ⟨?_, ?_, ?_, ?_, ?_, ?_, ?_, ?_, ?_, ?_, ?_, ?_, ?_, trivial⟩
        · intro V w' hb hd
          clear hd
          refine ⟨?_⟩
          simp only [fill]
          go_wp2
          exact ⟨rfl, rfl, Below.refl _ _, rfl⟩
        · intro V w' hb hd
          simp only [DepFacts, S21, Region.binds, forall_const, and_true] at hd
          refine ⟨?_⟩
          simp only [fill, hd]
          clear hd
          go_wp2
          exact ⟨rfl, rfl, Below.refl _ _, rfl⟩
        · intro V w' hb hd
          simp only [DepFacts, S21, Region.binds, forall_const, and_true] at hd
          refine ⟨?_⟩
          simp only [fill, hd]
          clear hd
          go_wp2
          exact ⟨rfl, rfl, Below.refl _ _, rfl⟩
        · intro V w' hb hd
          simp only [DepFacts, S21, Region.binds, forall_const, and_true] at hd
          refine ⟨?_⟩
          simp only [fill, hd]
          clear hd
          go_wp2
          exact ⟨rfl, rfl, Below.refl _ _, rfl⟩
        · intro V w' hb hd
          simp only [DepFacts, S21, Region.binds, forall_const, and_true] at hd
          refine ⟨?_⟩
          simp only [fill, hd]
          clear hd
          go_wp2
          exact ⟨rfl, rfl, Below.refl _ _, rfl⟩
        · intro V w' hb hd
          simp only [DepFacts, S21, Region.binds, forall_const, and_true] at hd
          refine ⟨?_⟩
          simp only [fill, hd]
          clear hd
          go_wp2
          exact ⟨rfl, rfl, Below.refl _ _, rfl⟩
        · intro V w' hb hd
          simp only [DepFacts, S21, Region.binds, forall_const, and_true] at hd
          refine ⟨?_⟩
          simp only [fill, hd]
          clear hd
          go_wp2_with fail
          refine (Get_at at_ m _ _ _ _ _ isl hLb hat (.inr hfit) (hx9d.ext hb) (hr9d.ext hb)).mono ?_
          rintro e w11 ⟨A11, c11, rfl, ho11, hb11⟩
          rw [HC.out] at ho11
          go_wp2
          exact ⟨rfl, rfl, hb11, A11, c11, rfl, Bytes.own ho11⟩
        · intro V w' hb hd
          simp only [DepFacts, S21, Region.binds, forall_const, and_true] at hd
          have h6 : ∃ A' c', V 6 = .slice A' m c' ∧ Bytes w' (.slice A' m c') ls := by first | exact hd.1 | exact hd.2 | exact hd
          have h2 : V 2 = .bool false := by first | exact hd.1 | exact hd.2
          clear hd
          obtain ⟨A', c', h6, hby⟩ := h6
          have q := HS.out _ _ _ _ _ hby
          refine ⟨?_⟩
          simp only [fill, h6, h2]
          clear h6 h2
          go_wp2
          exact ⟨rfl, rfl, Below.refl _ _, rfl⟩
        · intro V w' hb hd
          simp only [DepFacts, S21, Region.binds, forall_const, and_true] at hd
          refine ⟨?_⟩
          simp only [fill, hd]
          clear hd
          go_wp2
          exact ⟨rfl, rfl, Below.refl _ _, rfl⟩
        · intro V w' hb hd
          simp only [DepFacts, S21, Region.binds, forall_const, and_true] at hd
          have q := HS.out _ _ _ _ _ (hbb9d.ext hb)
          refine ⟨?_⟩
          simp only [fill, hd]
          clear hd
          go_wp2
          exact ⟨rfl, rfl, Below.refl _ _, rfl⟩
        · intro V w' hb hd
          simp only [DepFacts, S21, Region.binds, forall_const, and_true] at hd
          refine ⟨?_⟩
          simp only [fill, hd]
          clear hd
          go_wp2
          exact ⟨rfl, rfl, Below.refl _ _, rfl⟩
        · intro V w' hb hd
          simp only [DepFacts, S21, Region.binds, forall_const, and_true] at hd
          refine ⟨?_⟩
          simp only [fill, hd]
          clear hd
          go_wp2
          exact ⟨rfl, rfl, Below.refl _ _, rfl⟩
        · intro V w' hb hd
          simp only [DepFacts, S21, Region.binds, forall_const, and_true] at hd
          refine ⟨?_⟩
          simp only [fill, hd]
          clear hd
          go_wp2
          exact ⟨rfl, rfl, Below.refl _ _, rfl⟩
      · intro V w' hb hV
        simp only [SFacts, S21] at hV
        have h12 := hV.2.2.2.2.2.2.2.2.2.2.2.2.1
        clear hV
        simp only [fill, h12]
        go_wp2
        go_ret
        exact ⟨by simp [Act.put], below_step hB9d hb⟩

theorem walk (s i : Int) (v : Value) (ls : List UInt8) (w : World) (hs1 : -9223372036854775808 ≤ s) (hs2 : s ≤ 9223372036854775807) (hi1 : -9223372036854775808 ≤ i) (hi2 : i ≤ 9223372036854775807) (hb : Bytes w v ls) :
    Calls Try.prog 7 #[.int .i64 s, .int .i64 i, v] w fun e w' => e = .returned (.bool true) ∧ Below w.heap.size w w' := by
  obtain ⟨B, m, c, rfl, h1, h2, h3, h4⟩ := id hb
  by_cases he : s < 0 ∨ 3000 < s ∨ 1000 < m
  · exact walk_early s i w m c B h3 h2 he
  · obtain ⟨n, rfl⟩ : ∃ n : Nat, s = n := ⟨s.toNat, by omega⟩
    by_cases hi : i < 0
    · exact walk_neg n m c i B ls w (by omega) (by omega) hi1 hi hb
    · obtain ⟨a, rfl⟩ : ∃ a : Nat, i = a := ⟨i.toNat, by omega⟩
      by_cases h0 : m = 0
      · subst h0; exact walk_nil n c a B ls w (by omega) hi2 hb
      · by_cases hf : a + m ≤ 32 * ((n + 31) / 32)
        · exact walk_fit n m c a B ls w (by omega) (by omega) hi2 (by omega) hf hb
        · by_cases hn : a ≤ 32 * ((n + 31) / 32)
          · exact walk_no2 n m c a B ls w (by omega) (by omega) hi2 (by omega) hn (by omega) hb
          · exact walk_no1 n m c a B ls w (by omega) (by omega) hi2 (by omega) (by omega) hb
open Go.ChangeShapes Go.WideShapes Go.ChangeAt

set_option maxRecDepth 100000 in
theorem lifted (os : Os) (started : os.Started) (H : Type) (enc : TypeId × Value → H) :
    ReturnsInHanded {} Try.checked os 7 .any (Rows.memKeepsSpec.pre6 enc Try.prog Try.f7 Rows.memKeepsRow.domain false) (Rows.memKeepsSpec.post enc Try.prog Try.f7 false true false false) := by
  refine law_lift (C := Try.checked) (ts := [3, 3, 26]) (tb := 4) (by kernel_rfl) started (by kernel_rfl) Try.func7
    (ChangeSpec.witness6 (enc := enc) (C := Try.checked) false ⟨#[], #[.int .i64 0, .int .i64 0, .slice none 0 0], []⟩ 8 (by kernel_rfl) (by kernel_rfl) (by kernel_rfl) (by kernel_rfl))
    (by kernel_rfl) (by kernel_rfl) (by kernel_rfl) (by kernel_rfl) Try.underlying4 rfl (fun ds h => by match ds, h with | [_, _, _], _ => rfl) ?_
  intro W vs hl h
  match vs, hl with
  | [v0, v1, v2], _ =>
    obtain ⟨s, rfl, hs⟩ := arg_int Try.underlying3 (h 0 _ v0 rfl rfl)
    obtain ⟨i, rfl, hi⟩ := arg_int Try.underlying3 (h 1 _ v1 rfl rfl)
    obtain ⟨l, hl⟩ := arg_bytes Try.underlying26 Try.underlying5 (by kernel_rfl) (h 2 _ v2 rfl rfl)
    have hsb := bounds_i64 hs
    have hib := bounds_i64 hi
    exact walk s i v2 l W hsb.1 hsb.2 hib.1 hib.2 hl

theorem over : Rows.memKeepsRow.holds Try.pinned (OpenSpec.ofChange Rows.memKeepsSpec) :=
  OpenClaim.holds_of_wide 7 Try.f7 rfl rfl rfl rfl rfl rfl rfl ⟨rfl, rfl, rfl, rfl, rfl⟩ rfl rfl rfl rfl rfl (by kernel_rfl) Try.func7 (by kernel_rfl)
    (of_decide_eq_true (by kernel_rfl)) (by unfold Func.isWrapper; first | (rw [if_pos (by decide +kernel)]; kernel_rfl) | (rw [if_neg (by decide +kernel)]; exact ⟨rfl, rfl⟩))
    (fun os started H enc _ => lifted os started H enc)
end Go.Proofs.Ytpliedimdhilcaa.MemKeeps
namespace Go.Proofs.Ytpliedimdhilcaa
theorem memKeeps_holds : Rows.MemKeepsSaid := MemKeeps.over
#print axioms memKeeps_holds
end Go.Proofs.Ytpliedimdhilcaa
