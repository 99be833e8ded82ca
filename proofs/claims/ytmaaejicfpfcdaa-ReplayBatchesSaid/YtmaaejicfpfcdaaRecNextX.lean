/- The walk of the document's reading of a record: some ways. -/
import Derived.Test.YtmaaejicfpfcdaaRecNextR
import Derived.Test.YtmaaejicfpfcdaaRecNextB
namespace Go.Mun
open Go Go.RowKit Go.Proofs

set_option maxRecDepth 100000 in
set_option maxHeartbeats 8000000 in
theorem nr_short (A : Option Addr) (n c : Nat) (b : List UInt8) (w : World) (hbb : Bytes w (.slice A n c) b) (c4 : n < 4) :
    Calls Try.prog 25 #[.slice A n c] w (NextPost w b) := by
  have hT := bytesTyR
  have hR := recTy
  have zR := zRec_info
  obtain ⟨A', n', c', eeq, h1, h2, h3, h4⟩ := id hbb
  cases eeq
  clear h4
  unfold maxLen at h3
  have HR := Lib.hid (show nextB b = (.zero, 0, 6) from by unfold nextB; rw [if_pos (by omega)])
  have d4 : decide ((n : Int) < 4) = true := decide_eq_true (by omega)
  have tok1 : True := trivial
  go_enter Try.func25, Try.ntmps25
  go_wp2_with (first | ((with_reducible refine gd_alloc ?_); have _t := tok1; refine wpList_alloc_blk rfl 36 rfl zR ?_; clear tok1; intro w1 hx1 hB hl1) | ((with_reducible refine gd_store ?_); refine wpList_store_all rfl 36 (.tmp 2) (.tmp 14) rfl #[.int .i64 0, .bool false, .slice none 0 0, .slice none 0 0, .int .i64 0] hx1 hR rfl rfl (by rfl) (by rfl) ?_; intro w9 hx9 hg9; have hB9 := below_blk hB hB.size hg9 (Nat.le_refl _)) | fail)
  exact bodyPost_ret (results_blk3 (q := 3) (r := 4) rfl hR hx9 rfl rfl rfl) rfl (nextPost_of HR hB9 (RecO.zero _ _) rfl)

set_option maxRecDepth 100000 in
set_option maxHeartbeats 8000000 in
theorem nr_ck0 (A : Option Addr) (n c : Nat) (b : List UInt8) (w : World) (hbb : Bytes w (.slice A n c) b) (c4 : ¬ n < 4) (e0 : numB b = 0) :
    Calls Try.prog 25 #[.slice A n c] w (NextPost w b) := by
  have hT := bytesTyR
  have hR := recTy
  have zR := zRec_info
  obtain ⟨A', n', c', eeq, h1, h2, h3, h4⟩ := id hbb
  cases eeq
  clear h4
  unfold maxLen at h3
  have d4 : decide ((n : Int) < 4) = false := decide_eq_false (by omega)
  have hlt := numB_lt b
  have HR := Lib.hid (show nextB b = (.zero, 0, 4) from by unfold nextB; rw [if_neg (by omega), if_pos (.inl e0)])
  generalize hN : numB b = k at *
  have HN := Lib.hid hN
  clear hN
  subst e0
  have tok1 : True := trivial
  go_enter Try.func25, Try.ntmps25
  go_wp2_with (first | ((with_reducible refine gd_alloc ?_); have _t := tok1; refine wpList_alloc_blk rfl 36 rfl zR ?_; clear tok1; intro w1 hx1 hB hl1) | fail)
  refine (num_c (hbb.ext hB) (by omega)).mono ?_
  rintro e wq ⟨rfl, hbq⟩
  rw [HN.out]
  replace hx1 := hx1.ext hbq
  replace hB := below_step hB hbq
  go_wp2_with (first | ((with_reducible refine gd_store ?_); refine wpList_store_all rfl 36 (.tmp 2) (.tmp 23) rfl #[.int .i64 0, .bool false, .slice none 0 0, .slice none 0 0, .int .i64 0] hx1 hR rfl rfl (by rfl) (by rfl) ?_; intro w9 hx9 hg9; have hB9 := below_blk hB hB.size hg9 (Nat.le_refl _)) | fail)
  exact bodyPost_ret (results_blk3 (q := 3) (r := 4) rfl hR hx9 rfl rfl rfl) rfl (nextPost_of HR hB9 (RecO.zero _ _) rfl)

set_option maxRecDepth 100000 in
set_option maxHeartbeats 8000000 in
theorem nr_ck1 (A : Option Addr) (n c : Nat) (b : List UInt8) (w : World) (hbb : Bytes w (.slice A n c) b) (c4 : ¬ n < 4) (e1 : 16842758 < numB b) :
    Calls Try.prog 25 #[.slice A n c] w (NextPost w b) := by
  have hT := bytesTyR
  have hR := recTy
  have zR := zRec_info
  obtain ⟨A', n', c', eeq, h1, h2, h3, h4⟩ := id hbb
  cases eeq
  clear h4
  unfold maxLen at h3
  have d4 : decide ((n : Int) < 4) = false := decide_eq_false (by omega)
  have hlt := numB_lt b
  have HR := Lib.hid (show nextB b = (.zero, 0, 4) from by unfold nextB; rw [if_neg (by omega), if_pos (.inr e1)])
  generalize hN : numB b = k at *
  have HN := Lib.hid hN
  clear hN
  have dk0 : ((k : Int) == 0) = false := by rw [beq_eq_false_iff_ne]; omega
  have dk1 : decide ((16842758 : Int) < (k : Int)) = true := decide_eq_true (by omega)
  have tok1 : True := trivial
  go_enter Try.func25, Try.ntmps25
  go_wp2_with (first | ((with_reducible refine gd_alloc ?_); have _t := tok1; refine wpList_alloc_blk rfl 36 rfl zR ?_; clear tok1; intro w1 hx1 hB hl1) | fail)
  refine (num_c (hbb.ext hB) (by omega)).mono ?_
  rintro e wq ⟨rfl, hbq⟩
  rw [HN.out]
  replace hx1 := hx1.ext hbq
  replace hB := below_step hB hbq
  go_wp2_with (first | ((with_reducible refine gd_store ?_); refine wpList_store_all rfl 36 (.tmp 2) (.tmp 23) rfl #[.int .i64 0, .bool false, .slice none 0 0, .slice none 0 0, .int .i64 0] hx1 hR rfl rfl (by rfl) (by rfl) ?_; intro w9 hx9 hg9; have hB9 := below_blk hB hB.size hg9 (Nat.le_refl _)) | fail)
  exact bodyPost_ret (results_blk3 (q := 3) (r := 4) rfl hR hx9 rfl rfl rfl) rfl (nextPost_of HR hB9 (RecO.zero _ _) rfl)

set_option maxRecDepth 100000 in
set_option maxHeartbeats 8000000 in
theorem nr_cl (A : Option Addr) (n c : Nat) (b : List UInt8) (w : World) (hbb : Bytes w (.slice A n c) b) (c4 : ¬ n < 4) (ck : ¬ (numB b = 0 ∨ 16842758 < numB b)) (cl : n < 8 + numB b) :
    Calls Try.prog 25 #[.slice A n c] w (NextPost w b) := by
  have hT := bytesTyR
  have hR := recTy
  have zR := zRec_info
  obtain ⟨A', n', c', eeq, h1, h2, h3, h4⟩ := id hbb
  cases eeq
  clear h4
  unfold maxLen at h3
  have d4 : decide ((n : Int) < 4) = false := decide_eq_false (by omega)
  have hlt := numB_lt b
  have HR := Lib.hid (show nextB b = (.zero, 0, 6) from by unfold nextB; rw [if_neg (by omega), if_neg ck, if_pos (by omega)])
  generalize hN : numB b = k at *
  have HN := Lib.hid hN
  clear hN
  have dk0 : ((k : Int) == 0) = false := by rw [beq_eq_false_iff_ne]; omega
  have dk1 : decide ((16842758 : Int) < (k : Int)) = false := decide_eq_false (by omega)
  have dl : decide ((n : Int) < 8 + (k : Int)) = true := decide_eq_true (by omega)
  clear ck
  have tok1 : True := trivial
  go_enter Try.func25, Try.ntmps25
  go_wp2_with (first | ((with_reducible refine gd_alloc ?_); have _t := tok1; refine wpList_alloc_blk rfl 36 rfl zR ?_; clear tok1; intro w1 hx1 hB hl1) | fail)
  refine (num_c (hbb.ext hB) (by omega)).mono ?_
  rintro e wq ⟨rfl, hbq⟩
  rw [HN.out]
  replace hx1 := hx1.ext hbq
  replace hB := below_step hB hbq
  go_wp2_with (first | ((with_reducible refine gd_store ?_); refine wpList_store_all rfl 36 (.tmp 2) (.tmp 29) rfl #[.int .i64 0, .bool false, .slice none 0 0, .slice none 0 0, .int .i64 0] hx1 hR rfl rfl (by rfl) (by rfl) ?_; intro w9 hx9 hg9; have hB9 := below_blk hB hB.size hg9 (Nat.le_refl _)) | fail)
  exact bodyPost_ret (results_blk3 (q := 3) (r := 4) rfl hR hx9 rfl rfl rfl) rfl (nextPost_of HR hB9 (RecO.zero _ _) rfl)

theorem NextRecord_any (v : Value) (b : List UInt8) (w : World) (hbb : Bytes w v b) :
    Calls Try.prog 25 #[v] w (NextPost w b) := by
  obtain ⟨A, n, c, rfl, _⟩ := id hbb
  by_cases c4 : n < 4
  · exact nr_short A n c b w hbb c4
  by_cases e0 : numB b = 0
  · exact nr_ck0 A n c b w hbb c4 e0
  by_cases e1 : 16842758 < numB b
  · exact nr_ck1 A n c b w hbb c4 e1
  have ck : ¬ (numB b = 0 ∨ 16842758 < numB b) := fun h => h.elim e0 e1
  by_cases cl : n < 8 + numB b
  · exact nr_cl A n c b w hbb c4 ck cl
  by_cases cs : (numB (b.drop 4) : Int) = crcSum ((b.take (8 + numB b)).drop 8)
  · by_cases x2 : (((b.take (8 + numB b)).drop 8).getD 0 0).toNat = 2
    · by_cases e5 : numB b = 5
      · exact nr_A A n c b w hbb c4 ck cl cs x2 e5
      · exact nr_C1 A n c b w hbb c4 ck cl cs x2 e5
    · by_cases x1 : (((b.take (8 + numB b)).drop 8).getD 0 0).toNat = 1
      · by_cases e6 : numB b < 6
        · exact nr_C3 A n c b w hbb c4 ck cl cs x1 e6
        · by_cases f2 : (((b.take (8 + numB b)).drop 8).getD 1 0).toNat < 2
          · by_cases fz : numB b < numB (((b.take (8 + numB b)).drop 8).drop 2) + 6
            · exact nr_B1 A n c b w hbb c4 ck cl cs x1 e6 f2 fz
            · exact nr_B2 A n c b w hbb c4 ck cl cs x1 e6 f2 fz
          · exact nr_C4 A n c b w hbb c4 ck cl cs x1 e6 f2
      · exact nr_C2 A n c b w hbb c4 ck cl cs x2 x1
  · exact nr_sum A n c b w hbb c4 ck cl cs
end Go.Mun
