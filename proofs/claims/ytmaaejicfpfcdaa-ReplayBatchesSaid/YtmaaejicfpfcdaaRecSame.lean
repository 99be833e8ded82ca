/- The walks of the document's comparison of records. -/
import Derived.Test.YtmaaejicfpfcdaaRecNextW
import Derived.Test.YtmaaejicfpfcdaaStr
import Derived.Outline
namespace Go.Mun
open Go Go.RowKit Go.Proofs

set_option maxRecDepth 100000 in
set_option maxHeartbeats 1000000 in
theorem SameOp_any (d1 d2 : Bool) (kv1 vv1 kv2 vv2 : Value) (k1 v1 k2 v2 : List UInt8) (w : World) (hk1 : Bytes w kv1 k1) (hv1 : Bytes w vv1 v1) (hk2 : Bytes w kv2 k2) (hv2 : Bytes w vv2 v2) :
    Calls Try.prog 45 #[.agg #[.bool d1, kv1, vv1], .agg #[.bool d2, kv2, vv2]] w fun e w' =>
      e = .returned (.bool (d1 == d2 && (decide (k1 = k2) && (d1 || decide (v1 = v2))))) ∧ Below w.heap.size w w' := by
  obtain ⟨A1, n1, c1, rfl, a1⟩ := id hk1
  obtain ⟨A2, n2, c2, rfl, a2⟩ := id hv1
  obtain ⟨A3, n3, c3, rfl, a3⟩ := id hk2
  obtain ⟨A4, n4, c4, rfl, a4⟩ := id hv2
  clear a1 a2 a3 a4
  have hek := list_beq k1 k2
  have hev := list_beq v1 v2
  have HS := fun (w : World) (A : Option Addr) (n c : Nat) (l : List UInt8) (h : Bytes w (.slice A n c) l) => run_str (P := Try.prog) (src := 24) (dst := 9) h Try.underlying24 Try.underlying5 Try.underlying9
  have HS := Lib.hid HS
  have tok1 : True := trivial
  by_cases ek : k1 = k2
  · by_cases ev : v1 = v2
    all_goals
      first | rw [decide_eq_true ek, decide_eq_true ev] at * | rw [decide_eq_true ek, decide_eq_false ev] at *
      cases d1 <;> cases d2
      all_goals
        go_enter Try.func45, Try.ntmps45
        go_wp2_with (first
          | ((with_reducible refine gd_box ?_); have _t := tok1; refine wpList_box_agg rfl _ (.tmp 0) rfl rfl ?_; clear tok1; intro w1 hx1 hb1 hl1)
          | ((with_reducible refine gd_box ?_); refine wpList_box_agg rfl _ (.tmp 1) rfl rfl ?_; intro w2 hx2 hb2 hl2; have hx1' := hx1.ext hb2; have hB2 := below_step hb1 hb2; have q1 := HS.out _ _ _ _ _ (hk1.ext hB2); have q2 := HS.out _ _ _ _ _ (hv1.ext hB2); have q3 := HS.out _ _ _ _ _ (hk2.ext hB2); have q4 := HS.out _ _ _ _ _ (hv2.ext hB2); have y0 := hx1'.cellv (i := 0) rfl; have y1 := hx1'.cellv (i := 1) rfl; have y2 := hx1'.cellv (i := 2) rfl; have z0 := hx2.cellv (i := 0) rfl; have z1 := hx2.cellv (i := 1) rfl; have z2 := hx2.cellv (i := 2) rfl)
          | fail)
        go_ret
        exact ⟨rfl, hB2⟩
  · rw [decide_eq_false ek] at *
    cases d1 <;> cases d2
    all_goals
      go_enter Try.func45, Try.ntmps45
      go_wp2_with (first
        | ((with_reducible refine gd_box ?_); have _t := tok1; refine wpList_box_agg rfl _ (.tmp 0) rfl rfl ?_; clear tok1; intro w1 hx1 hb1 hl1)
        | ((with_reducible refine gd_box ?_); refine wpList_box_agg rfl _ (.tmp 1) rfl rfl ?_; intro w2 hx2 hb2 hl2; have hx1' := hx1.ext hb2; have hB2 := below_step hb1 hb2; have q1 := HS.out _ _ _ _ _ (hk1.ext hB2); have q2 := HS.out _ _ _ _ _ (hv1.ext hB2); have q3 := HS.out _ _ _ _ _ (hk2.ext hB2); have q4 := HS.out _ _ _ _ _ (hv2.ext hB2); have y0 := hx1'.cellv (i := 0) rfl; have y1 := hx1'.cellv (i := 1) rfl; have y2 := hx1'.cellv (i := 2) rfl; have z0 := hx2.cellv (i := 0) rfl; have z1 := hx2.cellv (i := 1) rfl; have z2 := hx2.cellv (i := 2) rfl)
        | fail)
      go_ret
      exact ⟨rfl, hB2⟩

theorem same_kind {r s : Rec} (h : r.kind ≠ s.kind) : r.sameB s = false := by
  unfold Rec.sameB
  rw [decide_eq_false h]; rfl
theorem same_two {r s : Rec} (h : r.kind = s.kind) (h2 : r.kind = 2) : r.sameB s = decide (r.n = s.n) := by
  unfold Rec.sameB
  have e : decide (r.kind ≠ 2) = false := decide_eq_false fun e => e h2
  rw [decide_eq_true h, decide_eq_true h2, e]; simp
theorem same_other {r s : Rec} (h : r.kind = s.kind) (h2 : r.kind ≠ 2) : r.sameB s = (r.del == s.del && (decide (r.key = s.key) && (r.del || decide (r.value = s.value)))) := by
  unfold Rec.sameB
  have e : decide (r.kind ≠ 2) = true := decide_eq_true h2
  rw [decide_eq_true h, decide_eq_false h2, e, Bool.and_assoc]; simp

set_option maxRecDepth 100000 in
set_option maxHeartbeats 1000000 in
theorem SameRecord_any (r s : Rec) (kv1 vv1 kv2 vv2 : Value) (w : World) (hk1 : Bytes w kv1 r.key) (hv1 : Bytes w vv1 r.value) (hk2 : Bytes w kv2 s.key) (hv2 : Bytes w vv2 s.value) :
    Calls Try.prog 24 #[.agg #[.int .i64 r.kind, .bool r.del, kv1, vv1, .int .i64 r.n], .agg #[.int .i64 s.kind, .bool s.del, kv2, vv2, .int .i64 s.n]] w fun e w' =>
      e = .returned (.bool (r.sameB s)) ∧ Below w.heap.size w w' := by
  have HK := Lib.hid (@same_kind r s)
  have H2 := Lib.hid (@same_two r s)
  have HO := Lib.hid (@same_other r s)
  generalize r.sameB s = rs at *
  obtain ⟨kind1, d1, k1, v1, n1⟩ := r
  obtain ⟨kind2, d2, k2, v2, n2⟩ := s
  simp only at *
  obtain ⟨A1, m1, c1, rfl, a1⟩ := id hk1
  obtain ⟨A2, m2, c2, rfl, a2⟩ := id hv1
  obtain ⟨A3, m3, c3, rfl, a3⟩ := id hk2
  obtain ⟨A4, m4, c4, rfl, a4⟩ := id hv2
  clear a1 a2 a3 a4
  have tok1 : True := trivial
  by_cases e1 : kind1 = kind2
  · subst e1
    by_cases e2 : kind1 = 2
    · by_cases e3 : n1 = n2
      all_goals
        have HR := Lib.hid (H2.out rfl e2)
        subst e2
        go_enter Try.func24, Try.ntmps24
        go_wp2_with (first
          | ((with_reducible refine gd_box ?_); have _t := tok1; refine wpList_box_agg rfl _ (.tmp 0) rfl rfl ?_; clear tok1; intro w1 hx1 hb1 hl1)
          | ((with_reducible refine gd_box ?_); refine wpList_box_agg rfl _ (.tmp 1) rfl rfl ?_; intro w2 hx2 hb2 hl2; have hx1' := hx1.ext hb2; have hB2 := below_step hb1 hb2; have y0 := hx1'.cellv (i := 0) rfl; have y4 := hx1'.cellv (i := 4) rfl; have z0 := hx2.cellv (i := 0) rfl; have z4 := hx2.cellv (i := 4) rfl)
          | fail)
        go_ret
        exact ⟨by rw [HR.out]; simp [e3], hB2⟩
    · have HR := Lib.hid (HO.out rfl e2)
      have HE := Lib.hid (SameOp_any d1 d2 (.slice A1 m1 c1) (.slice A2 m2 c2) (.slice A3 m3 c3) (.slice A4 m4 c4) k1 v1 k2 v2)
      have u1 : (kind1 == 2) = false := by rw [beq_eq_false_iff_ne]; exact e2
      have u2 : (kind1 != 2) = true := by rw [bne_iff_ne]; exact e2
      go_enter Try.func24, Try.ntmps24
      go_wp2_with (first
        | ((with_reducible refine gd_box ?_); have _t := tok1; refine wpList_box_agg rfl _ (.tmp 0) rfl rfl ?_; clear tok1; intro w1 hx1 hb1 hl1)
        | ((with_reducible refine gd_box ?_); refine wpList_box_agg rfl _ (.tmp 1) rfl rfl ?_; intro w2 hx2 hb2 hl2; have hx1' := hx1.ext hb2; have hB2 := below_step hb1 hb2; have y0 := hx1'.cellv (i := 0) rfl; have y1 := hx1'.cellv (i := 1) rfl; have y2 := hx1'.cellv (i := 2) rfl; have y3 := hx1'.cellv (i := 3) rfl; have z0 := hx2.cellv (i := 0) rfl; have z1 := hx2.cellv (i := 1) rfl; have z2 := hx2.cellv (i := 2) rfl; have z3 := hx2.cellv (i := 3) rfl)
        | fail)
      refine (HE.out _ (hk1.ext hB2) (hv1.ext hB2) (hk2.ext hB2) (hv2.ext hB2)).mono ?_
      rintro e w3 ⟨rfl, hb3⟩
      rw [← HR.out]
      go_wp2
      go_ret
      exact ⟨rfl, below_step hB2 hb3⟩
  · have HR := Lib.hid (HK.out e1)
    have u1 : (kind1 == kind2) = false := by rw [beq_eq_false_iff_ne]; exact e1
    go_enter Try.func24, Try.ntmps24
    go_wp2_with (first
      | ((with_reducible refine gd_box ?_); have _t := tok1; refine wpList_box_agg rfl _ (.tmp 0) rfl rfl ?_; clear tok1; intro w1 hx1 hb1 hl1)
      | ((with_reducible refine gd_box ?_); refine wpList_box_agg rfl _ (.tmp 1) rfl rfl ?_; intro w2 hx2 hb2 hl2; have hx1' := hx1.ext hb2; have hB2 := below_step hb1 hb2; have y0 := hx1'.cellv (i := 0) rfl; have z0 := hx2.cellv (i := 0) rfl)
      | fail)
    go_ret
    exact ⟨by rw [HR.out]; rfl, hB2⟩
end Go.Mun
