/- The reference: Names. -/
import Derived.Test.YtdkccaiahgfjoaaFrSync
namespace Go.Mun
open Go Go.RowKit Go.Proofs Go.Maps

theorem strsTy : SliceTy Try.prog 28 9 (.string ⟨#[]⟩) 1 16 := SliceTy.mk' Try.underlying28 (by kernel_rfl) rfl (by decide)
section
variable {k p : Nat} {M : FSs} {φ : Nat → Nat} {o : Own} {K L : Nat} {w : World}
set_option maxRecDepth 100000 in
set_option maxHeartbeats 2000000 in
theorem NamesR_any (h : RelR k p M φ o K L w) (hK : K ≤ 1000000) : Calls Try.prog 17 #[.pointer (some ⟨p, 0, none⟩)] w fun e w' => ∃ v, e = .returned v ∧ w'.ownsRow w.heap.size 9 1 v (namesM M).length ((namesM M).map strV) ∧ Below w.heap.size w w' := by
  have hT := strsTy
  obtain ⟨vn, vs, vw, vk, pl, c0, c1, lf, hh⟩ := h.head
  have hnl := h.nowlen
  have hx := hh.blk
  obtain ⟨A, c, rfl, _, hcm, hr⟩ := (Ents.own hh.now).at_
  have HC := Lib.hid (fun kx q (hq : M.now[kx]? = some q) => hr _ _ (erow_at φ hq).1)
  have HX := Lib.hid (fun w' (hb : Below w.heap.size w w') => hx.ext hb)
  obtain ⟨N, hN⟩ : ∃ N, N = M.now.length := ⟨_, rfl⟩
  rw [← hN] at hnl
  cases hd : M.dead
  · rw [hd, ← hN] at HX
    have HN := Lib.hid hN
    have HNM := Lib.hid (show namesM M = M.now.map (·.1) by unfold namesM; rw [hd]; rfl)
    have HW := Lib.hid h.own
    clear hh h hd hr hx hN
    go_enter Try.func17, Try.ntmps17
    go_wp2_with fail
    go_loopw [4, 3] (fun iv v wr => ∃ i : Nat, i ≤ N ∧ iv = .int .i64 (i : Nat) ∧ wr.ownsRow w.heap.size 9 1 v i ((M.now.take i).map fun q => strV q.1) ∧ Below w.heap.size w wr) (fun iv _ _ => N - (RowKit.intOf iv).toNat)
    case atStart => exact ⟨0, Nat.zero_le _, rfl, World.ownsRow_nil _ _ _ _, Below.refl _ _⟩
    case round =>
      obtain ⟨i, hi, rfl, ho, hB⟩ := hrel
      have hxr := HX.out wr hB
      have y0 := hxr.cellv (i := 0) rfl
      have y8 := hxr.cellv (i := 8) rfl
      by_cases hlt : i < N
      · have f0 : decide ((i : Int) < (N : Int)) = true := decide_eq_true (by omega)
        obtain ⟨q, hq⟩ : ∃ q, M.now[i]? = some q := ⟨_, List.getElem?_eq_getElem (by rw [← HN.out]; exact hlt)⟩
        obtain ⟨ad, rfl, hc⟩ := HC.out i q hq
        have hc1 := cell_ext hB hc
        have i1 := Int.natCast_nonneg i
        have i2 : (i : Int) < (N : Int) := by omega
        have HQ := Lib.hid (show (M.now.take (i + 1)).map (fun q => strV q.1) = (M.now.take i).map (fun q => strV q.1) ++ [strV q.1] by
          obtain ⟨h1, h2⟩ := List.getElem?_eq_some_iff.1 hq
          rw [List.take_succ_eq_append_getElem h1, h2, List.map_append]
          rfl)
        clear hc hq hxr
        go_wp2_with (first
          | ((with_reducible refine gd_rowC ?_); refine wpList_row_val (v := .string ⟨q.1.toArray⟩) rfl (.tmp 29) rfl hT (by decide) rfl rfl ?_; intro w2 hx2 hb2 hl2; have ho2 := own_ext ho hb2; have hB2 := below_step hB hb2)
          | (at_builtin; refine wpList_append_rd _ rfl (.tmp 21) (.tmp 30) _ rfl w.heap.size _ _ 1 16 hT _ _ _ rfl ho2 (some ⟨wr.heap.size, 0, none⟩) 1 1 [.string ⟨q.1.toArray⟩] rfl rfl hx2.rd (by intro u hu; rw [List.mem_singleton.1 hu]; rfl) (by unfold maxLen; omega) (by omega) hB2.size ?_; intro v3 w3 ho3 hg3 hat3; have hB3 := below_own hB2 ho2 (Nat.le_refl _) hg3 hB2.size)
          | fail)
        have ho4 : w3.ownsRow w.heap.size 9 1 v3 (i + 1) ((M.now.take (i + 1)).map fun q => strV q.1) := by rw [HQ.out]; exact ho3
        go_roundw
        case rel => first | exact ⟨i + 1, by omega, by go_num, ho4, hB3⟩ | ((repeat apply Exists.intro); exact ⟨⟨i + 1, by omega, by go_num, ho4, hB3⟩, rfl⟩)
        case measure => simp [RowKit.intOf]; omega
      · obtain rfl : i = N := by omega
        have f0 : decide ((i : Int) < (i : Int)) = false := decide_eq_false (by omega)
        go_wp2
        go_ret
        refine ⟨_, rfl, ?_, hB⟩
        rw [HNM.out, List.length_map, List.map_map, ← HN.out]
        rw [HN.out, List.take_length] at ho
        exact HN.out ▸ ho
  · have HNM := Lib.hid (show namesM M = [] by unfold namesM; rw [hd]; rfl)
    rw [hd, ← hN] at HX
    have hxr := HX.out w (Below.refl _ _)
    have y0 := hxr.cellv (i := 0) rfl
    have y8 := hxr.cellv (i := 8) rfl
    clear hh h hd hr hx hN
    go_enter Try.func17, Try.ntmps17
    go_wp2_with fail
    go_loopw [4, 3] (fun iv v wr => iv = .int .i64 (0 : Nat) ∧ v = .slice none 0 0 ∧ wr = w) (fun iv _ _ => 0)
    case atStart => exact ⟨rfl, rfl, rfl⟩
    case round =>
      obtain ⟨rfl, rfl, rfl⟩ := hrel
      by_cases hlt : 0 < N
      · have f0 : decide (((0 : Nat) : Int) < (N : Int)) = true := decide_eq_true (by omega)
        go_wp2
        go_ret
        exact ⟨_, rfl, by rw [HNM.out]; exact World.ownsRow_nil _ _ _ _, Below.refl _ _⟩
      · have f0 : decide (((0 : Nat) : Int) < (N : Int)) = false := decide_eq_false (by omega)
        go_wp2
        go_ret
        exact ⟨_, rfl, by rw [HNM.out]; exact World.ownsRow_nil _ _ _ _, Below.refl _ _⟩
end
end Go.Mun
