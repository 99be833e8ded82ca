/- Names: all names, rising. slices.Clone of bools. -/
import Derived.Test.YtdkccaiahgfjoaaFsWait
import Derived.Test.YtdkccaiahgfjoaaIterD
import Derived.Test.YtdkccaiahgfjoaaRead
namespace Go.Mun
open Go Go.RowKit Go.Proofs Go.Maps

theorem idT_names (φ : Nat → Nat) (P : PL Nat) : (idT φ P).map (fun p => strV p.1) = P.map fun p => strV p.1 := by
  unfold idT mapP
  rw [List.map_map]
  rfl
theorem idT_rises {φ : Nat → Nat} {P : PL Nat} (h : Rises P) : Rises (idT φ P) := by
  unfold idT mapP Rises
  rw [List.pairwise_map]
  exact h
theorem idT_len (φ : Nat → Nat) (P : PL Nat) : (idT φ P).length = P.length := by
  unfold idT mapP
  rw [List.length_map]
section
variable {k p : Nat} {M : FSs} {φ : Nat → Nat} {o : Own} {K L : Nat} {w : World}
set_option maxRecDepth 100000 in
theorem Names_dead (h : RelP k p M φ o K L w) (hd : M.dead = true) : Calls Try.prog 22 #[.pointer (some ⟨p, 0, none⟩)] w fun e w' => e = .returned (.slice none 0 0) ∧ w = w' := by
  obtain ⟨bn, bs, vw, vk, hh⟩ := h.head
  have y6 := hh.blk.cellv (i := 6) rfl
  rw [hd] at y6
  clear hh h hd
  go_enter Try.func22, Try.ntmps22
  go_wp2
  go_ret
  exact ⟨rfl, rfl⟩
set_option maxRecDepth 100000 in
set_option maxHeartbeats 1000000 in
theorem Names_any (h : RelP k p M φ o K L w) (hd : M.dead = false) (hn : M.now.length ≤ 100000) : Calls Try.prog 22 #[.pointer (some ⟨p, 0, none⟩)] w fun e w' => ∃ v, e = .returned v ∧ w'.ownsRow w.heap.size 9 1 v M.now.length (M.now.map fun p => strV p.1) ∧ Below w.heap.size w w' := by
  obtain ⟨bn, bs, vw, vk, hh⟩ := h.head
  obtain ⟨N, hN, _⟩ := hh.now
  have y0 := hh.blk.cellv (i := 0) rfl
  have y6 := hh.blk.cellv (i := 6) rfl
  rw [hd] at y6
  have CK := Lib.hid (fun mb W => callsIn_wide.1 (Try.maps_Keys_40 mb W))
  have CS := Lib.hid (callsIn_wide.1 (Try.slices_Sorted_keys_39_40 bn N (encM (idT φ M.now)) RV w hN (by rw [enc_size, idT_len]; unfold maxLen; omega) (by rw [enc_size, idT_len]; omega)))
  have HT := Lib.hid (idT_rises (φ := φ) h.fine.rnow)
  have hz : w.heap.size < (w.alloc (.cells #[.map (some bn)] 56)).heap.size := by simp
  clear hh h hN hd
  go_enter Try.func22, Try.ntmps22
  go_wp2_with (first
    | (go_at_call 40; refine (CK.out _ _).mono ?_; rintro e w1 ⟨rfl, rfl⟩)
    | (go_at_call 39; refine CS.out.mono ?_; rintro e w2 ⟨v2, ss, rfl, hp2, ho2, _, hb2⟩)
    | fail)
  go_ret
  refine ⟨_, rfl, ?_, ((Below.refl _ w).alloc (Nat.le_refl _) _).trans (hb2.mono (Nat.le_of_lt hz))⟩
  have := own_base (sorted_keys HT.out hp2 ho2) (Nat.le_of_lt hz)
  rw [idT_names, idT_len] at this
  exact this
end
/-- bools in memory -/
def Bools (w : World) (v : Value) (l : List Bool) : Prop := ∃ A n c, v = .slice A n c ∧ l.length = n ∧ n ≤ c ∧ c ≤ maxLen ∧ Rd w A (l.map .bool)
theorem Bools.of_slice {w : World} {v : Value} {l : List Bool} (h : SliceOf 1 rBool w v l) : Bools w v l := by
  obtain ⟨A, n, c, xs, rfl, g1, g2, g3, g4, g5, g6⟩ := h
  refine ⟨A, n, c, rfl, g1, g3, g4, ?_⟩
  have e : l.map Value.bool = xs := by
    apply List.ext_getElem
    · rw [List.length_map]; omega
    · intro i h1 h2
      rw [List.length_map] at h1
      have := g6 i h1
      have e2 : (chunk xs 1 i)[0]? = some (.bool l[i]) := by rw [this]; rfl
      unfold chunk at e2
      rw [List.getElem?_take, if_pos (by omega), List.getElem?_drop, Nat.mul_one, Nat.add_zero, List.getElem?_eq_getElem h2] at e2
      injection e2 with e2
      rw [List.getElem_map]
      exact e2.symm
  rw [e]
  exact g5
theorem boolsTy : SliceTy Try.prog 30 4 (.bool false) 1 1 := SliceTy.mk' Try.underlying30 (by kernel_rfl) rfl (by decide)
theorem bools_one {l : List Bool} : ∀ u ∈ l.map Value.bool, u.oneCell' = true := by
  intro u hu
  obtain ⟨b, _, rfl⟩ := List.mem_map.1 hu
  rfl
set_option maxRecDepth 100000 in
set_option maxHeartbeats 400000 in
theorem BoolClone_any (v : Value) (l : List Bool) (w : World) (hv : Bools w v l) (hl : l.length ≤ 140737488355328) :
    Calls Try.prog 37 #[v] w fun e w' => ∃ v', e = .returned v' ∧ w'.ownsRow w.heap.size 4 1 v' l.length (l.map .bool) ∧ Below w.heap.size w w' := by
  have hT := boolsTy
  obtain ⟨A, n, c, rfl, h1, h2, h3, h4⟩ := hv
  have hq : ∀ (w : World) (a : Option Addr) (n c n' c' : Nat), (binOp .eql 30 (.slice a n c) (.slice none n' c')).run Try.prog w = .ok (.bool a.isNone) w := fun w a n c n' c' => Lib.run_eql_slice_nil w _ _ a n c n' c' Try.underlying30
  cases A with
  | none =>
    have e : l = [] := by
      cases l with
      | nil => rfl
      | cons x l => obtain ⟨_, e, _⟩ := h4 0 (.bool x) rfl; cases e
    go_enter Try.func37, Try.ntmps37
    go_wp2
    go_ret
    exact ⟨_, rfl, by rw [e]; exact ⟨rfl, .inl ⟨rfl, rfl⟩⟩, Below.refl _ _⟩
  | some ad =>
    have ho : (w.alloc (.cells #[] 4)).ownsRow w.heap.size 4 1 (.slice (some ⟨w.heap.size, 0, none⟩) 0 0) 0 [] := own_new_at (Nat.le_refl _) rfl 4 #[] rfl (by simp [maxLen]) rfl
    have hB : Below w.heap.size w (w.alloc (.cells #[] 4)) := (Below.refl _ _).alloc (Nat.le_refl _) _
    have hr := h4.ext hB
    have hln : (l.map Value.bool).length = n * 1 := by rw [List.length_map]; omega
    subst h1
    go_enter Try.func37, Try.ntmps37
    go_wp2_with (first
      | (at_builtin; refine wpList_append_rd _ rfl (.tmp 5) (.tmp 6) _ rfl w.heap.size _ _ 1 1 hT _ _ _ rfl ho (some ad) l.length c (l.map .bool) rfl hln hr bools_one (by unfold maxLen; omega) (by omega) hB.size ?_; intro v3 w3 ho3 hg3 hat3)
      | fail)
    go_ret
    exact ⟨_, rfl, by simpa using ho3, below_own hB ho (Nat.le_refl _) hg3 hB.size⟩
end Go.Mun
