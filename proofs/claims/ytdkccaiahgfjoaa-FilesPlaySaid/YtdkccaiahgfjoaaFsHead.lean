/- The calls that read or write the head alone: Dead, Ops, Start. -/
import Derived.Test.YtdkccaiahgfjoaaFsNew
import Derived.Test.YtdkccaiahgfjoaaPut
namespace Go.Mun
open Go Go.RowKit Go.Proofs Go.Maps

section
variable {k p : Nat} {M : FSs} {φ : Nat → Nat} {o : Own} {K L : Nat} {w : World}
theorem Dead_any (h : RelP k p M φ o K L w) : Calls Try.prog 26 #[.pointer (some ⟨p, 0, none⟩)] w fun e w' => e = .returned (.bool M.dead) ∧ w = w' := by
  obtain ⟨bn, bs, vw, vk, hh⟩ := h.head
  have y6 := hh.blk.cellv (i := 6) rfl
  clear hh h
  go_enter Try.func26, Try.ntmps26
  go_wp2
  go_ret
  exact ⟨rfl, rfl⟩
theorem Ops_any (h : RelP k p M φ o K L w) : Calls Try.prog 23 #[.pointer (some ⟨p, 0, none⟩)] w fun e w' => e = .returned (.int .i64 M.ops) ∧ w = w' := by
  obtain ⟨bn, bs, vw, vk, hh⟩ := h.head
  have y7 := hh.blk.cellv (i := 7) rfl
  clear hh h
  go_enter Try.func23, Try.ntmps23
  go_wp2
  go_ret
  exact ⟨rfl, rfl⟩
/-- only the head was written -/
theorem FileAt.head {w' : World} {i : Nat} {f : FileS} (h : FileAt k φ o w i f) (hg : w.grownBy w' (some p)) (ho : OwnIn o w) (hp : o p = some (k, .fs)) : FileAt k φ o w' i f := by
  obtain ⟨v, h1, h2, h3, h4⟩ := h
  have ne : ∀ {b t}, o b = some (k, t) → t ≠ .fs → w'.heap[b]? = w.heap[b]? := fun e ht => hg.block _ (ho.lt e) fun e' => by
    injection e' with e'
    subst e'
    rw [hp] at e
    injection e with e
    injection e with _ e
    exact ht e.symm
  exact ⟨v, h1.same (ne h2 (by simp)), h2, own_same h3 fun g hg => ne (h4 g hg) (by simp), h4⟩
/-- the head's own block was written -/
theorem RelP.head_set {w' : World} {M' : FSs} (h : RelP k p M φ o K L w) {bn bs : Nat} {vw vk vk' : Value} (hh : Head k p M φ o K w bn bs vw vk) (hg : w.grownBy w' (some p))
    (hx : Blk w' p 59 #[.map (some bn), .map (some bs), vw, .int .i64 M'.op, .int .i64 M'.cut, vk', .bool M'.dead, .int .i64 M'.ops])
    (hn : M'.now = M.now) (hs : M'.syn = M.syn) (hw : M'.waits = M.waits) (hf : M'.fs = M.fs) (hfine : Fine M') (hk : w'.ownsRow 0 4 1 vk' M'.keep.length (M'.keep.map .bool)) (hko : ∀ g, vk'.ownBlock = some g → o g = some (k, .keep))
    (hops : 0 ≤ M'.ops ∧ M'.ops ≤ K) (hcut : -9223372036854775808 ≤ M'.cut ∧ M'.cut ≤ 9223372036854775807) (hop : M'.op ≤ 9223372036854775807) : RelP k p M' φ o K L w' := by
  have ne : ∀ {b t}, o b = some (k, t) → t ≠ .fs → w'.heap[b]? = w.heap[b]? := fun e ht => hg.block _ (h.own.lt e) fun e' => by
    injection e' with e'
    subst e'
    rw [hh.op] at e
    injection e with e
    injection e with _ e
    exact ht e.symm
  refine ⟨hfine, h.own.more hg.size, ⟨bn, bs, vw, vk', ⟨hx, hh.op, hh.on, hh.os, ?_, ?_, ?_, hh.ow, hk, hko⟩⟩, fun i hi => ?_, hops, hcut, hop, by rw [hw]; exact h.wl⟩
  · obtain ⟨N, h1, h2⟩ := hh.now
    exact ⟨N, by rw [hn]; exact h1.same (ne hh.on (by simp)), h2⟩
  · obtain ⟨N, h1, h2⟩ := hh.syn
    exact ⟨N, by rw [hs]; exact h1.same (ne hh.os (by simp)), by rw [hw]; exact h2⟩
  · rw [hw]
    exact own_same hh.waits fun g hg => ne (hh.ow g hg) (by simp)
  · have hi' : Live M i := by unfold Live at hi ⊢; rw [hn, hs, hw] at hi; exact hi
    rw [hf]
    exact ⟨(h.file i hi').1.head hg h.own hh.op, (h.file i hi').2⟩
set_option maxRecDepth 100000 in
theorem Start_any (h : RelP k p M φ o K L w) : Calls Try.prog 20 #[.pointer (some ⟨p, 0, none⟩)] w fun e w' => e = .returned (.tuple #[]) ∧ RelP k p (startM M) φ o K L w' ∧ Turn k o o w w' := by
  obtain ⟨bn, bs, vw, vk, hh⟩ := h.head
  have hx := hh.blk
  have H := Lib.hid hh
  have HR := Lib.hid h
  clear hh h
  go_enter Try.func20, Try.ntmps20
  go_wp2_with (first
    | ((with_reducible refine gd_store ?_); refine wpList_store_cell rfl 4 (.tmp 4) (.const (.bool false)) rfl (i := 6) (v := .bool false) hx (show 6 < 8 by decide) (by kernel_rfl) rfl rfl rfl ?_; intro w1 hx1 hg1)
    | ((with_reducible refine gd_store ?_); refine wpList_store_part rfl 35 (.tmp 8) (.tmp 6) rfl (o := 3) (cells := #[.int .i64 (-1), .int .i64 0, .slice none 0 0]) hx1 (show 3 + 3 ≤ 8 by decide) rfl rfl (by kernel_rfl) rfl ?_; intro w2 hx2 hg2)
    | fail)
  have hg := hg1.trans hg2
  go_end0
  exact ⟨rfl, HR.out.head_set (M' := startM M) H.out hg hx2 rfl rfl rfl rfl HR.out.fine.start (World.ownsRow_nil _ _ _ _) (fun g h => by cases h) HR.out.ops ⟨by show (-9223372036854775808 : Int) ≤ 0; decide, by show (0 : Int) ≤ _; decide⟩ (by show (-1 : Int) ≤ _; decide), Turn.wrote HR.out.own hg H.out.op⟩
end
end Go.Mun
