/- 'Pop': the last words off a stack, the last first. -/
import Derived.Test.YtpliedimdhilcaaSwap
import Derived.Test.YtpliedimdhilcaaReverse
namespace Go.Mun
open Go Go.RowKit Go.Proofs

section
variable {P : Program} {t e : TypeId} {z : Value} {size bytes : Nat}
theorem cutw_l (hT : SliceTy P t e z size bytes) (A : Option Addr) (n c : Nat) {kl : IntKind} {lo' : Int} {lo : Nat} (hlo : lo' = lo) (h1 : lo ≤ n) (hc : n ≤ c) :
    ∃ A' : Option Addr, (∀ w, (Instr.slice t (.slice A n c) (some (.int kl lo')) none none).run P w = .ok (.slice A' (n - lo) (c - lo)) w) ∧ (A = none → A' = none) ∧
      (∀ w xs, xs.length = n * size → Rd w A xs → Rd w A' (xs.drop (lo * size))) := by
  subst hlo
  refine ⟨if c = lo then A else A.map (·.add (lo * size)), fun w => ?_, fun e => ?_, fun w xs hx h => ?_⟩
  · rw [run_slice_l w t A n c hT.under kl lo (by omega) (by omega), hT.sizeOf_elem]
    simp [Result.andThen, sliced]
  · subst e; simp
  · by_cases h0 : c = lo
    · rw [if_pos h0, List.drop_eq_nil_of_le (by rw [hx]; exact Nat.mul_le_mul_right _ (by omega))]
      exact Rd.nil _ _
    · rw [if_neg h0]
      exact h.drop _
theorem cutw_h (hT : SliceTy P t e z size bytes) (A : Option Addr) (n c : Nat) {kh : IntKind} {hi' : Int} {hi : Nat} (hhi : hi' = hi) (h2 : hi ≤ c) :
    ∀ w, (Instr.slice t (.slice A n c) none (some (.int kh hi')) none).run P w = .ok (.slice A hi c) w := by
  subst hhi
  intro w
  rw [run_slice_h w t A n c hT.under kh hi (by omega) (by omega), hT.sizeOf_elem]
  have e : ∀ A : Option Addr, A.map (·.add 0) = A := fun A => by cases A <;> simp [Addr.add]
  simp [Result.andThen, sliced, e]
end
/-- the beginning of a row of the call's own -/
theorem own_head {w : World} {base n c size at_ : Nat} {e : TypeId} {A : Option Addr} {xs : List Value} (ho : w.ownsRow base e size (.slice A n c) n xs) (h : at_ ≤ n) : w.ownsRow base e size (.slice A at_ c) at_ (xs.take (at_ * size)) := by
  obtain ⟨h1, h2⟩ := ho
  have hle : at_ * size ≤ n * size := Nat.mul_le_mul_right _ h
  refine ⟨by rw [List.length_take]; omega, ?_⟩
  rcases h2 with ⟨e1, e2⟩ | ⟨g, cap, cur, e1, hb, hh, hc, hm, hs, ht⟩
  · injection e1 with e1 e3 e4
    subst e1 e4
    exact .inl ⟨by rw [show at_ = 0 from by omega], by omega⟩
  · injection e1 with e1 e3 e4
    subst e1 e4
    exact .inr ⟨g, c, cur, rfl, hb, hh, by omega, hm, hs, by rw [← ht, List.take_take, Nat.min_eq_left hle]⟩
theorem wrow_take (l : List Nat) (k : Nat) : (wrow l).take (k * 32) = wrow (l.take k) := by
  by_cases hk : k ≤ l.length
  · have e : wrow l = wrow (l.take k) ++ wrow (l.drop k) := by rw [← wrow_append, List.take_append_drop]
    rw [e, List.take_left' (by rw [wrow_length, List.length_take, Nat.min_eq_left hk])]
  · rw [List.take_of_length_le (by rw [wrow_length]; omega), List.take_of_length_le (by omega)]
theorem wrow_drop (l : List Nat) (k : Nat) : (wrow l).drop (k * 32) = wrow (l.drop k) := by
  by_cases hk : k ≤ l.length
  · have e : wrow l = wrow (l.take k) ++ wrow (l.drop k) := by rw [← wrow_append, List.take_append_drop]
    rw [e, List.drop_left' (by rw [wrow_length, List.length_take, Nat.min_eq_left hk])]
  · rw [List.drop_eq_nil_of_le (by rw [wrow_length]; omega), List.drop_eq_nil_of_le (by omega), wrow_nil]

theorem own_row0 (w : World) (base : Nat) (e : TypeId) (size : Nat) (hb : base ≤ w.heap.size) : (w.alloc (.cells #[] e)).ownsRow base e size (.slice (some ⟨w.heap.size, 0, none⟩) 0 0) 0 [] :=
  ⟨by simp, .inr ⟨w.heap.size, 0, #[], rfl, hb, heap_alloc_new w _, Nat.le_refl _, Nat.zero_le _, by simp, by simp⟩⟩

set_option maxRecDepth 100000 in
theorem CloneW_any (w : World) (A : Option Addr) (m c : Nat) (l : List Nat) (hr : Rd w A (wrow l)) (hl : l.length = m) (hm : m ≤ 100000) :
    Calls Try.prog 43 #[.slice A m c] w fun e w' => ∃ A' c', e = .returned (.slice A' m c') ∧ w'.ownsRow w.heap.size 25 32 (.slice A' m c') m (wrow l) ∧ Below w.heap.size w w' := by
  have hT := wordsTy
  have hq : ∀ (w : World) (a : Option Addr) (n c n' c' : Nat), (binOp .eql 41 (.slice a n c) (.slice none n' c')).run Try.prog w = .ok (.bool a.isNone) w := fun w a n c n' c' => Lib.run_eql_slice_nil w _ _ a n c n' c' Try.underlying41
  cases A with
  | none =>
    have hl0 : l = [] := by
      cases l with
      | nil => rfl
      | cons x l =>
        obtain ⟨ad, e, _⟩ := hr.at_ (j := 0) (by rw [wrow_length]; simp)
        cases e
    subst hl0
    have hm0 : m = 0 := by simpa using hl.symm
    subst hm0
    go_enter Try.func43, Try.ntmps43
    go_wp2
    go_ret
    exact ⟨_, _, rfl, World.ownsRow_nil _ _ _ _, Below.refl _ _⟩
  | some ad =>
    have ho := own_row0 w w.heap.size 25 32 (Nat.le_refl _)
    have hB : Below w.heap.size w (w.alloc (.cells #[] 25)) := (Below.refl _ _).alloc (Nat.le_refl _) _
    go_enter Try.func43, Try.ntmps43
    go_wp2_with (first
      | (at_builtin; refine wpList_append_rd _ rfl (.tmp 5) (.tmp 6) _ rfl w.heap.size _ _ 32 32 hT _ 0 [] rfl ho (some ad) m c (wrow l) rfl (by rw [wrow_length, hl]) (hr.ext hB) (wrow_oneCell _) (by unfold maxLen; omega) (by omega) hB.size ?_; intro v3 w3 ho3 hg3 hat3)
      | fail)
    go_ret
    rw [Nat.zero_add, List.nil_append] at ho3
    obtain ⟨A', c', rfl⟩ := own_isSlice ho3
    exact ⟨A', c', rfl, ho3, below_own hB ho (Nat.le_refl _) hg3 hB.size⟩

/-- a block below a row that was made later is none of it -/
theorem own_low {w : World} {base g : Nat} {e : TypeId} {size n : Nat} {v : Value} {xs : List Value} (ho : w.ownsRow base e size v n xs) (hg : g < base) : some g ≠ v.ownBlock := fun e' => by
  have := (ho.lt g e'.symm).1
  omega
/-- a row that lay there, beside one that was made later -/
theorem far_low {w w' : World} {base base' : Nat} {e e' : TypeId} {size size' n n' : Nat} {a b : Value} {xs ys : List Value} (hb : w.ownsRow base e size b n ys) (hg : w.grownBy w' a.ownBlock) (ha : w.ownsRow base' e' size' a n' xs) (hlt : ∀ g, b.ownBlock = some g → g < base') : w'.ownsRow base e size b n ys :=
  hb.kept hg (by
    cases hbb : b.ownBlock with
    | none => exact .inl rfl
    | some g => exact .inr (own_low ha (hlt g hbb)))
theorem own_lt {w : World} {base : Nat} {e : TypeId} {size n : Nat} {v : Value} {xs : List Value} (ho : w.ownsRow base e size v n xs) : ∀ g, v.ownBlock = some g → g < w.heap.size := fun g e => (ho.lt g e).2
/-- 'slices.Reverse', whatever the row's length -/
theorem Reverse_any (w : World) (base n c : Nat) (A : Option Addr) (l : List Nat) (ho : w.ownsRow base 25 32 (.slice A n c) n (wrow l)) (hln : l.length = n) (hn : n ≤ 100000) :
    Calls Try.prog 44 #[.slice A n c] w fun e w' =>
      e = .returned (.tuple #[]) ∧ w'.ownsRow base 25 32 (.slice A n c) n (wrow l.reverse) ∧ w.grownBy w' (Value.ownBlock (.slice A n c)) := by
  by_cases h1 : n ≤ 1
  · have hrev : l.reverse = l := by
      match l, hln with
      | [], _ => rfl
      | [_], _ => rfl
      | _ :: _ :: _, hln => simp at hln; omega
    rw [hrev]
    refine (Reverse_small w n c A h1).mono ?_
    rintro e w' ⟨rfl, rfl⟩
    exact ⟨rfl, ho, World.grownBy.refl _ _⟩
  · obtain ⟨h, c', e, hh1, hh2⟩ := own_pos ho (by omega)
    injection e with e1 e2 e3
    subst e1 e3
    refine (Reverse_go w base h n c l ho hln hn).mono ?_
    rintro e w' ⟨rfl, h2, h3⟩
    exact ⟨rfl, h2, h3⟩
theorem Pop_no (i : Int) (w : World) (g n c : Nat) (A : Option Addr) (_h1 : -9223372036854775808 ≤ i) (_h2 : i ≤ 9223372036854775807) (hm : Blk w g 43 #[.slice A n c]) (h : i < 0 ∨ (n : Int) < i) :
    Calls Try.prog 36 #[.pointer (some ⟨g, 0, none⟩), .int .i64 i] w fun e w' => e = .returned (.tuple #[.slice none 0 0, .bool false]) ∧ w = w' := by
  have hc := hm.cellv (i := 0) rfl
  by_cases h1 : i < 0
  · have d1 : decide (i < 0) = true := decide_eq_true h1
    clear h
    go_enter Try.func36, Try.ntmps36
    go_wp2
    go_ret2
    exact ⟨rfl, rfl⟩
  · have d1 : decide (i < 0) = false := decide_eq_false h1
    have d2 : decide ((n : Int) < i) = true := decide_eq_true (by omega)
    clear h
    go_enter Try.func36, Try.ntmps36
    go_wp2
    go_ret2
    exact ⟨rfl, rfl⟩

set_option maxRecDepth 100000 in
set_option maxHeartbeats 1000000 in
theorem Pop_all (m k : Nat) (w : World) (g base : Nat) (l : List Nat) (r : Option Nat) (h : StR w g base l r) (hg : g < base) (hbs : base ≤ w.heap.size) (hk : k + m = l.length) (hl : l.length ≤ 100000) :
    Calls Try.prog 36 #[.pointer (some ⟨g, 0, none⟩), .int .i64 (m : Nat)] w fun e w' =>
      ∃ A' c', e = .returned (.tuple #[.slice A' m c', .bool true]) ∧ w'.ownsRow w.heap.size 25 32 (.slice A' m c') m (wrow (l.drop k).reverse) ∧ StR w' g base (l.take k) r ∧ Kept base g w w' ∧ Way2 g none w w' := by
  obtain ⟨A, c, hro, hm, ho⟩ := h
  obtain ⟨n, hn⟩ : ∃ n, n = l.length := ⟨_, rfl⟩
  have HTL := Lib.hid (show (l.take k).length = k by rw [List.length_take]; omega)
  have HDL := Lib.hid (show (l.drop k).length = m by rw [List.length_drop]; omega)
  rw [← hn] at hro hm ho hk hl
  have HRO := Lib.hid (show Value.ownBlock (.slice A k c) = r by rw [← hro]; cases A <;> rfl)
  clear hro
  have hnc : n ≤ c := by
    rcases ho.2 with ⟨e1, e2⟩ | ⟨g', cap, cur, e1, _, _, hc, _⟩
    · omega
    · injection e1 with e1 e2 e3; omega
  have HLN := Lib.hid (show (wrow l).length = n * 32 by rw [wrow_length, hn])
  clear hn
  have hT := wordsTy
  have HS := Lib.hid (show (Try.prog.info? 41).map (·.size) = some 1 by kernel_rfl)
  have d1 : decide ((m : Int) < 0) = false := decide_eq_false (by omega)
  have d2 : decide ((n : Int) < m) = false := decide_eq_false (by omega)
  have hc := hm.cellv (i := 0) rfl
  have E1 : (n : Int) - m = k := by omega
  obtain ⟨A1, hrun1, _, hcut1⟩ := cutw_l hT A n c (kl := .i64) (lo' := (k : Nat)) (lo := k) rfl (by omega) hnc
  have HC1 := Lib.hid hcut1
  have hrun2 := cutw_h hT A n c (kh := .i64) (hi' := (k : Nat)) (hi := k) rfl (by omega)
  have e1 : n - k = m := by omega
  rw [e1] at hrun1
  have HRD := Lib.hid (show Rd w A1 (wrow (l.drop k)) by rw [← wrow_drop]; exact hcut1 w _ HLN.out (Rd.own ho))
  have HOH := Lib.hid (fun w' (hO : World.ownsRow w' base 25 32 (.slice A n c) n (wrow l)) => by
    have := own_head hO (show k ≤ n by omega)
    rw [wrow_take] at this
    exact this)
  clear hcut1
  go_enter Try.func36, Try.ntmps36
  go_wp2_with (first
    | (go_at_call 43; refine (CloneW_any _ A1 m _ _ HRD.out HDL.out (by omega)).mono ?_; rintro e w3 ⟨A3, c3, rfl, ho3, hb3⟩; have hm3 := hm.ext hb3; have hoo3 := own_ext ho hb3; have hz3 := hb3.size)
    | (go_at_call 44; refine (Reverse_any _ _ _ _ _ _ ho3 HDL.out (by omega)).mono ?_; rintro e w4 ⟨rfl, ho4, hg4⟩; have hm4 := hm3.grown hg4 (own_low ho3 hm.lt); have hc4 := hm4.cellv (i := 0) rfl; have hoo4 := far_low hoo3 hg4 ho3 (own_lt ho))
    | ((with_reducible refine gd_store ?_); refine wpList_store_cell rfl _ (.tmp 43) (.tmp 41) rfl (i := 0) (v := .slice A k c) hm4 Nat.zero_lt_one HS.out rfl rfl rfl ?_; intro w5 hm5 hg5)
    | fail)
  have hB4 : Below w.heap.size w w4 := below_own hb3 ho3 (Nat.le_refl _) hg4 hz3
  have hs4 := hB4.size
  have hK : Kept base g w w5 := (Kept.of_below (hB4.mono hbs)).trans (Kept.put hg5 (by omega))
  have hm5' : Blk w5 g 43 #[.slice A k c] := hm5
  have hoo5 := HOH.out _ (own_kept hoo4 hg5 hg)
  have ho5 := own_kept ho4 hg5 hm.lt
  go_ret2
  have hY : Way2 g none w w5 := (Way2.of_below hB4).trans (Way2.of_put hg5)
  exact ⟨A3, c3, rfl, ho5, ⟨A, c, by rw [HTL.out]; exact HRO.out, by rw [HTL.out]; exact hm5', by rw [HTL.out]; exact hoo5⟩, hK, hY⟩
end Go.Mun
