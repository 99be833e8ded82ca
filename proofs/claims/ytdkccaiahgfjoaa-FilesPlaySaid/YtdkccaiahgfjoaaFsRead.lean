/- Read of a file. -/
import Derived.Test.YtdkccaiahgfjoaaFsAsk
import Derived.Test.YtdkccaiahgfjoaaClone
namespace Go.Mun
open Go Go.RowKit Go.Proofs Go.Maps

theorem row_slC {w : World} {base : Nat} {e : TypeId} {size n : Nat} {v : Value} {xs : List Value} (h : w.ownsRow base e size v n xs) : ∃ A c, v = .slice A n c := by
  rcases h.2 with ⟨e1, e2⟩ | ⟨g, cap, cur, e1, _⟩
  · exact ⟨none, 0, by rw [e1, e2]⟩
  · exact ⟨_, _, e1⟩
section
variable {k p : Nat} {M : FSs} {φ : Nat → Nat} {o : Own} {K L : Nat} {w : World}
/-- is there such a file now? -/
theorem isB_get {n : Ky} (h : isB M n = true) : ∃ i, getP M.now n = some i := by
  unfold isB at h
  rw [Bool.and_eq_true] at h
  exact Option.isSome_iff_exists.1 h.2
theorem Live.of_now {n : Ky} {i : Nat} (h : getP M.now n = some i) : Live M i := .inl ⟨_, getP_mem h, rfl⟩
set_option maxRecDepth 100000 in
theorem FsRead_no (h : RelP k p M φ o K L w) (n : Ky) (hn : n.length ≤ 1000000) (hb : isB M n = false) : Calls Try.prog 21 #[.pointer (some ⟨p, 0, none⟩), .string ⟨n.toArray⟩] w fun e w' => e = .returned (.tuple #[.slice none 0 0, .bool false]) ∧ w = w' := by
  have CI := Lib.hid (is_any h n hn)
  rw [hb] at CI
  clear hb h
  go_enter Try.func21, Try.ntmps21
  go_wp2_with (first
    | (go_at_call 35; (with_reducible refine CI.out.mono ?_); rintro e w1 ⟨rfl, rfl⟩)
    | fail)
  go_ret2
  exact ⟨rfl, rfl⟩
set_option maxRecDepth 100000 in
theorem FsRead_yes (h : RelP k p M φ o K L w) (n : Ky) (hn : n.length ≤ 1000000) (hb : isB M n = true) {i : Nat} (hg : getP M.now n = some i) (hL : L ≤ 140737488355328) : Calls Try.prog 21 #[.pointer (some ⟨p, 0, none⟩), .string ⟨n.toArray⟩] w fun e w' => ∃ v, e = .returned (.tuple #[v, .bool true]) ∧ w'.ownsRow w.heap.size 5 1 v (M.fs i).b.length (bv (M.fs i).b) ∧ Below w.heap.size w w' := by
  have CI := Lib.hid (is_any h n hn)
  rw [hb] at CI
  obtain ⟨bn, bs, vw, vk, hh⟩ := h.head
  obtain ⟨⟨v, f1, _, f3, _⟩, f5⟩ := h.file i (Live.of_now hg)
  have y0 := hh.blk.cellv (i := 0) rfl
  have z0 := f1.cellv (i := 0) rfl
  obtain ⟨N, hN, _⟩ := hh.now
  have q := hN.look namesTy (zFileP w) (by unfold maxLen; omega) (idT_get hg)
  have HB := Lib.hid (Bytes.own f3)
  have HL := Lib.hid (show (M.fs i).b.length ≤ 140737488355328 by omega)
  obtain ⟨A, c, rfl⟩ := row_slC f3
  clear hb h hh f1 f3 f5 hN hg
  go_enter Try.func21, Try.ntmps21
  go_wp2_with (first
    | (go_at_call 35; (with_reducible refine CI.out.mono ?_); rintro e w1 ⟨rfl, rfl⟩)
    | (go_at_call 38; (with_reducible refine (CloneB_any _ _ _ HB.out HL.out).mono ?_); rintro e w2 ⟨v2, rfl, ho2, hb2⟩)
    | fail)
  go_ret2
  exact ⟨_, rfl, ho2, hb2⟩
end
end Go.Mun
