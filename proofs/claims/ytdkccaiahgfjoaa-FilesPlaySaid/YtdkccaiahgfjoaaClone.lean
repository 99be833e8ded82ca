/- bytes.Clone. -/
import Derived.Test.YtdkccaiahgfjoaaBlk
import Derived.Test.YtdkccaiahgfjoaaProg
namespace Go.Mun
open Go Go.RowKit Go.Proofs

theorem bytesTyC : SliceTy Try.prog 26 5 (.int .u8 0) 1 1 := SliceTy.mk' Try.underlying26 (by kernel_rfl) rfl (by omega)
theorem own_noneC (w : World) (base : Nat) (e : TypeId) (hb : base ≤ w.heap.size) : (w.alloc (.cells #[] e)).ownsRow base e 1 (.slice (some ⟨w.heap.size, 0, none⟩) 0 0) 0 (bv []) :=
  own_new_at hb rfl e #[] rfl (by simp [maxLen]) rfl

set_option maxRecDepth 100000 in
set_option maxHeartbeats 400000 in
theorem CloneB_any (v : Value) (l : List UInt8) (w : World) (hv : Bytes w v l) (hl : l.length ≤ 140737488355328) :
    Calls Try.prog 38 #[v] w fun e w' => ∃ v', e = .returned v' ∧ w'.ownsRow w.heap.size 5 1 v' l.length (bv l) ∧ Below w.heap.size w w' := by
  have hT := bytesTyC
  obtain ⟨A, n, c, rfl, h1, h2, h3, h4⟩ := hv
  have hq : ∀ (w : World) (a : Option Addr) (n c n' c' : Nat), (binOp .eql 26 (.slice a n c) (.slice none n' c')).run Try.prog w = .ok (.bool a.isNone) w := fun w a n c n' c' => Lib.run_eql_slice_nil w _ _ a n c n' c' Try.underlying26
  cases A with
  | none =>
    have e : l = [] := by
      cases l with
      | nil => rfl
      | cons x l => obtain ⟨_, e, _⟩ := h4.byte (j := 0) (by simp); cases e
    go_enter Try.func38, Try.ntmps38
    go_wp2
    go_ret
    exact ⟨_, rfl, by rw [e]; exact ⟨rfl, .inl ⟨rfl, rfl⟩⟩, Below.refl _ _⟩
  | some ad =>
    have hy : Bytes w (.slice (some ad) n c) l := ⟨_, n, c, rfl, h1, h2, h3, h4⟩
    have ho := own_noneC w w.heap.size 5 (Nat.le_refl _)
    have hB : Below w.heap.size w (w.alloc (.cells #[] 5)) := (Below.refl _ _).alloc (Nat.le_refl _) _
    go_enter Try.func38, Try.ntmps38
    go_wp2_with (at_builtin; refine wpList_append_bytes rfl (.tmp 5) (.tmp 6) _ rfl w.heap.size hT (xs := []) rfl ho rfl (hy.ext hB) (by omega) hB.size ?_; intro v3 w3 ho3 hg3 hat3)
    go_ret
    exact ⟨_, rfl, by simpa using ho3, below_own hB ho (Nat.le_refl _) hg3 hB.size⟩
end Go.Mun
