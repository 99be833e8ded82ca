/- An operation that goes well: FS.fails answers false. maps.Clone of names. -/
import Derived.Test.YtdkccaiahgfjoaaFsPlan
namespace Go.Mun
open Go Go.RowKit Go.Proofs Go.Maps Go.Shelf

/-- maps.Clone of names -/
theorem CloneN_any {φ : Nat → Nat} {P : PL Nat} {b N : Nat} {w : World} (h : MapV w b (idT φ P) N) :
    Calls Try.prog 36 #[.map (some b)] w fun e w' => e = .returned (.map (some w.heap.size)) ∧ MapV w' w.heap.size (idT φ P) N ∧ Below w.heap.size w w' := by
  have := AnyW.maps_Clone_owns Try.clone36 9 RV b N (encM (idT φ P)) w h
  change Calls Try.prog 36 _ _ _ at this
  exact this.mono fun e w' ⟨h1, h2, _, h4⟩ => ⟨h1, h2, h4⟩
section
variable {k p : Nat} {M : FSs} {φ : Nat → Nat} {o : Own} {K L : Nat} {w : World}
theorem failsM_no (h : M.op ≠ 0) : failsM M = { M with op := max (-1) (M.op - 1), ops := M.ops + 1 } := if_neg h
theorem Fine.goes (h : Fine M) : Fine { M with op := max (-1) (M.op - 1), ops := M.ops + 1 } := ⟨h.rnow, h.rsyn, h.repl, h.ok, h.names, h.snames, h.fresh, h.sfresh, h.made, h.sized, h.once, by show -1 ≤ max (-1) (M.op - 1); omega⟩
theorem Head.more {bn bs : Nat} {vw vk : Value} (hh : Head k p M φ o K w bn bs vw vk) {K' : Nat} (hK : K ≤ K' := by omega) : Head k p M φ o K' w bn bs vw vk := by
  refine ⟨hh.blk, hh.op, hh.on, hh.os, ?_, ?_, hh.waits, hh.ow, hh.keep, hh.ok⟩
  · obtain ⟨N, h1, h2⟩ := hh.now
    exact ⟨N, h1, by omega⟩
  · obtain ⟨N, h1, h2⟩ := hh.syn
    exact ⟨N, h1, by omega⟩
theorem RelP.more (h : RelP k p M φ o K L w) {K' L' : Nat} (hK : K ≤ K') (hL : L ≤ L') : RelP k p M φ o K' L' w := by
  obtain ⟨bn, bs, vw, vk, hh⟩ := h.head
  exact ⟨h.fine, h.own, ⟨bn, bs, vw, vk, hh.more hK⟩, fun i hi => ⟨(h.file i hi).1, Nat.le_trans (h.file i hi).2 hL⟩, ⟨h.ops.1, by have := h.ops.2; omega⟩, h.cut, h.opb, Nat.le_trans h.wl hK⟩
set_option maxRecDepth 100000 in
set_option maxHeartbeats 1000000 in
theorem fails_no (h : RelP k p M φ o K L w) (hop : M.op ≠ 0) (hK : K ≤ 1000000000) :
    Calls Try.prog 30 #[.pointer (some ⟨p, 0, none⟩)] w fun e w' => e = .returned (.bool false) ∧ RelP k p (failsM M) φ o (K + 1) L w' ∧ Turn k o o w w' := by
  obtain ⟨bn, bs, vw, vk, hh⟩ := h.head
  have hx := hh.blk
  have H := Lib.hid hh
  have HR := Lib.hid h
  have o1 := h.fine.op
  have o2 := h.opb
  have p1 := h.ops.1
  have p2 := h.ops.2
  have e1 : (M.op != 0) = true := by simp [hop]
  have e2 : decide (M.op = 0) = false := decide_eq_false hop
  have y3 := hx.cellv (i := 3) rfl
  have HO := Lib.hid hop
  clear hh h
  go_enter Try.func30, Try.ntmps30
  go_wp2_with (first
    | ((with_reducible refine gd_store ?_); refine wpList_store_cell rfl 3 (.tmp 25) (.tmp 22) rfl (i := 3) (v := .int .i64 (max (-1) (M.op - 1))) hx (show 3 < 8 by decide) (by kernel_rfl) rfl rfl rfl ?_; intro w1 hx1 hg1; have y7 := hx1.cellv (i := 7) rfl)
    | ((with_reducible refine gd_store ?_); refine wpList_store_cell rfl 3 (.tmp 32) (.tmp 30) rfl (i := 7) (v := .int .i64 (M.ops + 1)) hx1 (show 7 < 8 by decide) (by kernel_rfl) rfl rfl rfl ?_; intro w2 hx2 hg2)
    | fail)
  have hg := hg1.trans hg2
  go_ret
  rw [failsM_no HO.out]
  exact ⟨rfl, RelP.head_set (M' := { M with op := max (-1) (M.op - 1), ops := M.ops + 1 }) (HR.out.more (Nat.le_succ K) (Nat.le_refl L)) (Head.more H.out) hg hx2 rfl rfl rfl rfl HR.out.fine.goes (own_same H.out.keep fun g hg' => same_of hg (HR.out.own.lt (H.out.ok g hg')) (H.out.ok g hg') (one_some H.out.op) (by simp)) H.out.ok ⟨by show 0 ≤ M.ops + 1; omega, by show M.ops + 1 ≤ ((K + 1 : Nat) : Int); omega⟩ HR.out.cut (by show max (-1) (M.op - 1) ≤ _; omega), Turn.wrote HR.out.own hg H.out.op⟩
end
end Go.Mun
