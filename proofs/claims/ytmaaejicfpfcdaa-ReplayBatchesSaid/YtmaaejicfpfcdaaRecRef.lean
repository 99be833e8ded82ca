/- The walks of the document's packing and reading of records. -/
import Derived.Test.YtmaaejicfpfcdaaRecSame
import Derived.Deep.RegionHeld3
import Derived.Deep.Cut
namespace Go.Mun
open Go Go.RowKit Go.Proofs

theorem and255 (n : Int) : bits .and .i64 n 255 = n % 256 := i64_and_mask n 8 255 (by omega) rfl

set_option maxHeartbeats 400000 in
theorem rfour_any (n : Int) (k : Nat) (w : World) (hn : n = k) :
    Calls Try.prog 42 #[.int .i64 n] w fun e w' => ∃ v, e = .returned v ∧ w'.ownsRow w.heap.size 5 1 v 4 (bv (fourB k)) ∧ Below w.heap.size w w' := by
  subst hn
  have hc : bv (fourB k) = #[Value.int .u8 ((k : Int) / 16777216 % 256), .int .u8 ((k : Int) / 65536 % 256), .int .u8 ((k : Int) / 256 % 256), .int .u8 ((k : Int) % 256)].toList := by
    rw [fourB_cells]
    rfl
  have HC := Lib.hid hc
  clear hc
  have a1 := and255 ((k : Int) / 16777216)
  have a2 := and255 ((k : Int) / 65536)
  have a3 := and255 ((k : Int) / 256)
  have a4 := and255 (k : Int)
  go_enter Try.func42, Try.ntmps42
  go_wp2
  go_ret
  exact ⟨_, rfl, by rw [HC.out]; exact own_new w _ _ rfl (by simp [maxLen]), (Below.refl _ _).alloc (Nat.le_refl _) _⟩
/-- what 'PackRecord' answers -/
def PackPost (r : Rec) (w : World) (e : Ending) (w' : World) : Prop := Below w.heap.size w w' ∧
  ((r.err ≠ 0 ∧ e = .returned (.tuple #[.slice none 0 0, .int .i64 r.err])) ∨
    (r.err = 0 ∧ ∃ v, e = .returned (.tuple #[v, .int .i64 0]) ∧ w'.ownsRow w.heap.size 5 1 v r.bytes.length (bv r.bytes)))
theorem packPost_ok {r : Rec} {w w' : World} {v : Value} {n : Nat} {l : List UInt8} (hB : Below w.heap.size w w') (he : Hid (r.err = 0)) (hn : Hid (l = r.bytes)) (ho : w'.ownsRow w.heap.size 5 1 v n (bv l)) :
    PackPost r w (.returned (.tuple #[v, .int .i64 0])) w' := by
  refine ⟨hB, .inr ⟨he.out, v, rfl, ?_⟩⟩
  have hl : n = l.length := by have := ho.1; rw [bv_length] at this; omega
  rw [← hn.out, ← hl]
  exact ho

set_option maxRecDepth 100000 in
set_option maxHeartbeats 4000000 in
theorem PackRecord_any (r : Rec) (kv vv : Value) (w : World) (hk : Bytes w kv r.key) (hv : Bytes w vv r.value) (hn1 : -9223372036854775808 ≤ r.n) (hn2 : r.n ≤ 9223372036854775807) :
    Calls Try.prog 22 #[.agg #[.int .i64 r.kind, .bool r.del, kv, vv, .int .i64 r.n]] w (PackPost r w) := by
  obtain ⟨kind, del, key, value, n⟩ := r
  obtain ⟨A, m, c, rfl, k1, k2, k3, k4⟩ := id hk
  obtain ⟨B, m', c', rfl, v1, v2, v3, v4⟩ := id hv
  simp only at *
  have hT := bytesTyR
  unfold maxLen at k3 v3
  clear k4 v4
  by_cases e1 : kind = 1
  · subst e1
    have hend : Rec.isEnd ⟨1, del, key, value, n⟩ = false := isEnd_one
    by_cases c1 : 65536 < m
    · have HE := Lib.hid (show Rec.err ⟨1, del, key, value, n⟩ = 3 from err_long hend rfl (.inl (by simp only; omega)))
      have d1 : decide ((65536 : Int) < m) = true := decide_eq_true (by omega)
      have tok1 : True := trivial
      go_enter Try.func22, Try.ntmps22
      go_wp2_with (first | ((with_reducible refine gd_box ?_); have _t := tok1; refine wpList_box_agg rfl _ (.tmp 0) rfl rfl ?_; clear tok1; intro w1 hx1 hB hl1; have y0 := hx1.cellv (i := 0) rfl; have y1 := hx1.cellv (i := 1) rfl; have y2 := hx1.cellv (i := 2) rfl; have y3 := hx1.cellv (i := 3) rfl; have y4 := hx1.cellv (i := 4) rfl) | fail)
      go_ret2
      exact ⟨hB, .inl ⟨by rw [HE.out]; omega, ret_e HE.out⟩⟩
    · have d1 : decide ((65536 : Int) < m) = false := decide_eq_false (by omega)
      by_cases c2 : del = false ∧ 16777216 < m'
      · obtain ⟨rfl, c2⟩ := c2
        have HE := Lib.hid (show Rec.err ⟨1, false, key, value, n⟩ = 3 from err_long hend rfl (.inr ⟨rfl, by simp only; omega⟩))
        have d2 : decide ((16777216 : Int) < m') = true := decide_eq_true (by omega)
        have tok1 : True := trivial
        go_enter Try.func22, Try.ntmps22
        go_wp2_with (first | ((with_reducible refine gd_box ?_); have _t := tok1; refine wpList_box_agg rfl _ (.tmp 0) rfl rfl ?_; clear tok1; intro w1 hx1 hB hl1; have y0 := hx1.cellv (i := 0) rfl; have y1 := hx1.cellv (i := 1) rfl; have y2 := hx1.cellv (i := 2) rfl; have y3 := hx1.cellv (i := 3) rfl; have y4 := hx1.cellv (i := 4) rfl) | fail)
        go_ret2
        exact ⟨hB, .inl ⟨by rw [HE.out]; omega, ret_e HE.out⟩⟩
      · have HE := Lib.hid (show Rec.err ⟨1, del, key, value, n⟩ = 0 from err_fits hend rfl (by simp only; rw [k1, v1]; rintro (h | h); exact c1 h; exact c2 h))
        cases del
        · have HBd := Lib.hid (body_set (key := key) (value := value) hend)
          have d2 : decide ((16777216 : Int) < m') = false := decide_eq_false (by simp at c2; omega)
          have hm' : m' ≤ 16777216 := by simp at c2; omega
          clear c2
          have tok3 : True := trivial
          have tok1 : True := trivial
          go_enter Try.func22, Try.ntmps22
          go_wp2_with (first | ((with_reducible refine gd_box ?_); have _t := tok1; refine wpList_box_agg rfl _ (.tmp 0) rfl rfl ?_; clear tok1; intro w1 hx1 hB hl1; have y0 := hx1.cellv (i := 0) rfl; have y1 := hx1.cellv (i := 1) rfl; have y2 := hx1.cellv (i := 2) rfl; have y3 := hx1.cellv (i := 3) rfl; have y4 := hx1.cellv (i := 4) rfl) | fail)
          have ho4 := own_new_at (w := w1) (base := w.heap.size + 1) (g := w1.heap.size) (Nat.succ_le_of_lt hx1.lt) rfl 5 #[.int .u8 1, .int .u8 0] (n := 2) rfl (by simp [maxLen]) (xs := bv [1, 0]) rfl
          replace hB := hB.alloc hB.size (.cells #[.int .u8 1, .int .u8 0] 5)
          replace hx1 := hx1.alloc (.cells #[.int .u8 1, .int .u8 0] 5)
          clear y0 y1 y2 y3 y4
          have y2 := hx1.cellv (i := 2) rfl
          replace ho4 := own_drew ho4
          replace hx1 := hx1.drew
          replace hB := hB.drew
          go_region_held3 (fun w' => w'.cell? ⟨w.heap.size, 2, none⟩ = some (.slice A m c)) (first | go_keep | exact y2)
            (first
              | (go_at_call 42; refine (rfour_any _ m _ rfl).mono ?_; rintro e w3 ⟨vf, rfl, hof, hbf⟩; replace ho4 := own_ext ho4 hbf; replace hx1 := hx1.ext hbf; replace hB := below_step hB hbf; replace y2 := hx1.cellv (i := 2) rfl; have hyf := Bytes.own hof)
              | (have _t := tok3; refine step_append_bytes (by rfl) (.tmp 33) (.tmp 38) _ (by rfl) (w.heap.size + 1) hT (xs := [1, 0]) (by rfl) ho4 (by rfl) hyf (by rw [fourB_length]; omega) (Nat.succ_le_of_lt hx1.lt) ?_; clear tok3; intro v5 w5 ho5 hg5 hat5; have hn5 := own_far hx1.lt ho4 (Nat.lt_succ_self _); replace hx1 := hx1.grown hg5 hn5; replace hB := below_own hB (own_base ho4 (Nat.le_succ _)) (Nat.le_refl _) hg5 hB.size; replace y2 := hx1.cellv (i := 2) rfl)
              | (refine step_append_bytes (by rfl) (.tmp 39) (.tmp 42) _ (by rfl) (w.heap.size + 1) hT (xs := [1, 0] ++ fourB m) (by rfl) ho5 (by rfl) (hk.ext hB) (by rw [fourB_length]; omega) (Nat.succ_le_of_lt hx1.lt) ?_; intro v6 w6 ho6 hg6 hat6; have hn6 := own_far hx1.lt ho5 (Nat.lt_succ_self _); replace hx1 := hx1.grown hg6 hn6; replace hB := below_own hB (own_base ho5 (Nat.le_succ _)) (Nat.le_refl _) hg6 hB.size; replace y2 := hx1.cellv (i := 2) rfl))
          have y1 := hx1.cellv (i := 1) rfl
          have y3 := hx1.cellv (i := 3) rfl
          go_upto_region 17 with (at_builtin; refine wpList_append_bytes rfl (.tmp 48) (.tmp 51) _ rfl (w.heap.size + 1) hT rfl ho6 rfl (hv.ext hB) (by simp only [fourB_length]; omega) (Nat.succ_le_of_lt hx1.lt) ?_; intro vz wz hoz hgz hatz; replace hB := below_own hB (own_base ho6 (Nat.le_succ _)) (Nat.le_refl _) hgz hB.size; replace hoz := own_base hoz (Nat.le_succ w.heap.size))
          rw [← k1] at hoz
          obtain ⟨L, hL⟩ : ∃ L, L = List.length (Rec.body ⟨1, false, key, value, n⟩) := ⟨_, rfl⟩
          obtain ⟨bs, hbs⟩ : ∃ bs, bs = Rec.body ⟨1, false, key, value, n⟩ := ⟨_, rfl⟩
          have hLn : 2 + (fourB key.length).length + key.length + value.length = L := by rw [hL, HBd.out]; simp [fourB_length] <;> omega
          rw [← HBd.out, ← hbs, hLn] at hoz
          have hbd : L ≤ 16842758 := by rw [hL]; exact body_bd HE.out
          have HN := Lib.hid (show fourB L ++ fourB (crcSum bs).toNat ++ bs = Rec.bytes ⟨1, false, key, value, n⟩ from by rw [hL, hbs]; rfl)
          clear hLn hL hbs
          obtain ⟨AX, cX, rfl, hlX, hyX⟩ := own_slice hoz
          have hltX := fun ad (e : AX = some ad) => (hoz.lt ad.block (by rw [e]; rfl)).2
          clear hoz
          go_wp2_with fail
          refine (rfour_any _ L _ rfl).mono ?_
          rintro e w7 ⟨v7, rfl, ho7, hb7⟩
          have hne : ∀ ad, AX = some ad → some ad.block ≠ v7.ownBlock := fun ad e e' => by
            have h1 := hltX ad e
            have h2 := (ho7.lt _ e'.symm).1
            omega
          have hB7 := below_step hB hb7
          replace hyX := hyX.ext hb7
          have hyX' := hyX
          obtain ⟨_, _, _, ee, x1, x2, x3, x4⟩ := hyX'
          cases ee
          go_wp2_with fail
          refine (Crc_any AX L cX bs _ x1 x4 (by omega)).mono ?_
          rintro e w8 ⟨rfl, rfl⟩
          obtain ⟨q1, q2⟩ := crcSum_toNat bs
          go_wp2_with fail
          refine (rfour_any _ (crcSum bs).toNat _ q1.symm).mono ?_
          rintro e w9 ⟨v9, rfl, ho9, hb9⟩
          replace ho7 := own_base (own_ext ho7 hb9) hB.size
          have hB9 := below_step hB7 hb9
          replace hyX := hyX.ext hb9
          have hy9 := Bytes.own ho9
          have tok8 : True := trivial
          go_wp2_with (first
            | (at_builtin; have _t := tok8; refine wpList_append_bytes rfl (.tmp 70) (.tmp 73) _ rfl w.heap.size hT rfl ho7 rfl hy9 (by rw [fourB_length]; omega) hB9.size ?_; clear tok8; intro va wa hoa hga hata; have hBa := below_own hB9 ho7 (Nat.le_refl _) hga hB9.size; replace hyX := hyX.grownB hga hne)
            | (at_builtin; refine wpList_append_bytes rfl (.tmp 74) (.tmp 75) _ rfl w.heap.size hT rfl hoa rfl hyX (by simp only [fourB_length]; omega) hBa.size ?_; intro vb wb hob hgb hatb; have hBb := below_own hBa hoa (Nat.le_refl _) hgb hBa.size))
          go_ret2
          exact packPost_ok hBb HE HN hob
        · have HBd := Lib.hid (show Rec.body ⟨1, true, key, value, n⟩ = [1, 1] ++ fourB key.length ++ key from body_del hend)
          clear c2
          have tok3 : True := trivial
          have tok1 : True := trivial
          go_enter Try.func22, Try.ntmps22
          go_wp2_with (first | ((with_reducible refine gd_box ?_); have _t := tok1; refine wpList_box_agg rfl _ (.tmp 0) rfl rfl ?_; clear tok1; intro w1 hx1 hB hl1; have y0 := hx1.cellv (i := 0) rfl; have y1 := hx1.cellv (i := 1) rfl; have y2 := hx1.cellv (i := 2) rfl; have y3 := hx1.cellv (i := 3) rfl; have y4 := hx1.cellv (i := 4) rfl) | fail)
          have ho4 := own_new_at (w := w1) (base := w.heap.size + 1) (g := w1.heap.size) (Nat.succ_le_of_lt hx1.lt) rfl 5 #[.int .u8 1, .int .u8 1] (n := 2) rfl (by simp [maxLen]) (xs := bv [1, 1]) rfl
          replace hB := hB.alloc hB.size (.cells #[.int .u8 1, .int .u8 1] 5)
          replace hx1 := hx1.alloc (.cells #[.int .u8 1, .int .u8 1] 5)
          clear y0 y1 y2 y3 y4
          have y2 := hx1.cellv (i := 2) rfl
          replace ho4 := own_drew ho4
          replace hx1 := hx1.drew
          replace hB := hB.drew
          go_region_held3 (fun w' => w'.cell? ⟨w.heap.size, 2, none⟩ = some (.slice A m c)) (first | go_keep | exact y2)
            (first
              | (go_at_call 42; refine (rfour_any _ m _ rfl).mono ?_; rintro e w3 ⟨vf, rfl, hof, hbf⟩; replace ho4 := own_ext ho4 hbf; replace hx1 := hx1.ext hbf; replace hB := below_step hB hbf; replace y2 := hx1.cellv (i := 2) rfl; have hyf := Bytes.own hof)
              | (have _t := tok3; refine step_append_bytes (by rfl) (.tmp 33) (.tmp 38) _ (by rfl) (w.heap.size + 1) hT (xs := [1, 1]) (by rfl) ho4 (by rfl) hyf (by rw [fourB_length]; omega) (Nat.succ_le_of_lt hx1.lt) ?_; clear tok3; intro v5 w5 ho5 hg5 hat5; have hn5 := own_far hx1.lt ho4 (Nat.lt_succ_self _); replace hx1 := hx1.grown hg5 hn5; replace hB := below_own hB (own_base ho4 (Nat.le_succ _)) (Nat.le_refl _) hg5 hB.size; replace y2 := hx1.cellv (i := 2) rfl)
              | (refine step_append_bytes (by rfl) (.tmp 39) (.tmp 42) _ (by rfl) (w.heap.size + 1) hT (xs := [1, 1] ++ fourB m) (by rfl) ho5 (by rfl) (hk.ext hB) (by rw [fourB_length]; omega) (Nat.succ_le_of_lt hx1.lt) ?_; intro v6 w6 ho6 hg6 hat6; have hn6 := own_far hx1.lt ho5 (Nat.lt_succ_self _); replace hx1 := hx1.grown hg6 hn6; replace hB := below_own hB (own_base ho5 (Nat.le_succ _)) (Nat.le_refl _) hg6 hB.size; replace y2 := hx1.cellv (i := 2) rfl))
          have y1 := hx1.cellv (i := 1) rfl
          have y3 := hx1.cellv (i := 3) rfl
          replace ho6 := own_base ho6 (Nat.le_succ w.heap.size)
          rw [← k1] at ho6
          obtain ⟨L, hL⟩ : ∃ L, L = List.length (Rec.body ⟨1, true, key, value, n⟩) := ⟨_, rfl⟩
          obtain ⟨bs, hbs⟩ : ∃ bs, bs = Rec.body ⟨1, true, key, value, n⟩ := ⟨_, rfl⟩
          have hLn : 2 + (fourB key.length).length + key.length = L := by rw [hL, HBd.out]; simp [fourB_length] <;> omega
          rw [← HBd.out, ← hbs, hLn] at ho6
          have hbd : L ≤ 16842758 := by rw [hL]; exact body_bd HE.out
          have HN := Lib.hid (show fourB L ++ fourB (crcSum bs).toNat ++ bs = Rec.bytes ⟨1, true, key, value, n⟩ from by rw [hL, hbs]; rfl)
          clear hLn hL hbs
          obtain ⟨AX, cX, rfl, hlX, hyX⟩ := own_slice ho6
          have hltX := fun ad (e : AX = some ad) => (ho6.lt ad.block (by rw [e]; rfl)).2
          clear ho6
          go_wp2_with fail
          refine (rfour_any _ L _ rfl).mono ?_
          rintro e w7 ⟨v7, rfl, ho7, hb7⟩
          have hne : ∀ ad, AX = some ad → some ad.block ≠ v7.ownBlock := fun ad e e' => by
            have h1 := hltX ad e
            have h2 := (ho7.lt _ e'.symm).1
            omega
          have hB7 := below_step hB hb7
          replace hyX := hyX.ext hb7
          have hyX' := hyX
          obtain ⟨_, _, _, ee, x1, x2, x3, x4⟩ := hyX'
          cases ee
          go_wp2_with fail
          refine (Crc_any AX L cX bs _ x1 x4 (by omega)).mono ?_
          rintro e w8 ⟨rfl, rfl⟩
          obtain ⟨q1, q2⟩ := crcSum_toNat bs
          go_wp2_with fail
          refine (rfour_any _ (crcSum bs).toNat _ q1.symm).mono ?_
          rintro e w9 ⟨v9, rfl, ho9, hb9⟩
          replace ho7 := own_base (own_ext ho7 hb9) hB.size
          have hB9 := below_step hB7 hb9
          replace hyX := hyX.ext hb9
          have hy9 := Bytes.own ho9
          have tok8 : True := trivial
          go_wp2_with (first
            | (at_builtin; have _t := tok8; refine wpList_append_bytes rfl (.tmp 70) (.tmp 73) _ rfl w.heap.size hT rfl ho7 rfl hy9 (by rw [fourB_length]; omega) hB9.size ?_; clear tok8; intro va wa hoa hga hata; have hBa := below_own hB9 ho7 (Nat.le_refl _) hga hB9.size; replace hyX := hyX.grownB hga hne)
            | (at_builtin; refine wpList_append_bytes rfl (.tmp 74) (.tmp 75) _ rfl w.heap.size hT rfl hoa rfl hyX (by simp only [fourB_length]; omega) hBa.size ?_; intro vb wb hob hgb hatb; have hBb := below_own hBa hoa (Nat.le_refl _) hgb hBa.size))
          go_ret2
          exact packPost_ok hBb HE HN hob
  · have hk1 : Rec.isEnd ⟨kind, del, key, value, n⟩ = false → Rec.err ⟨kind, del, key, value, n⟩ = 1 := fun h => err_kind h e1
    have u1 : (kind == 1) = false := by rw [beq_eq_false_iff_ne]; exact e1
    by_cases e2 : kind = 2
    · subst e2
      by_cases n0 : n < 0
      · have HE := Lib.hid (hk1 (decide_eq_false (by simp only; omega)))
        have d1 : decide (n < 0) = true := decide_eq_true n0
        clear hk1
        have tok1 : True := trivial
        go_enter Try.func22, Try.ntmps22
        go_wp2_with (first | ((with_reducible refine gd_box ?_); have _t := tok1; refine wpList_box_agg rfl _ (.tmp 0) rfl rfl ?_; clear tok1; intro w1 hx1 hB hl1; have y0 := hx1.cellv (i := 0) rfl; have y1 := hx1.cellv (i := 1) rfl; have y2 := hx1.cellv (i := 2) rfl; have y3 := hx1.cellv (i := 3) rfl; have y4 := hx1.cellv (i := 4) rfl) | fail)
        go_ret2
        exact ⟨hB, .inl ⟨by rw [HE.out]; omega, ret_e HE.out⟩⟩
      · have d1 : decide (n < 0) = false := decide_eq_false n0
        by_cases n1 : 2147483647 < n
        · have HE := Lib.hid (hk1 (decide_eq_false (by simp only; omega)))
          have d2 : decide (2147483647 < n) = true := decide_eq_true n1
          clear hk1
          have tok1 : True := trivial
          go_enter Try.func22, Try.ntmps22
          go_wp2_with (first | ((with_reducible refine gd_box ?_); have _t := tok1; refine wpList_box_agg rfl _ (.tmp 0) rfl rfl ?_; clear tok1; intro w1 hx1 hB hl1; have y0 := hx1.cellv (i := 0) rfl; have y1 := hx1.cellv (i := 1) rfl; have y2 := hx1.cellv (i := 2) rfl; have y3 := hx1.cellv (i := 3) rfl; have y4 := hx1.cellv (i := 4) rfl) | fail)
          go_ret2
          exact ⟨hB, .inl ⟨by rw [HE.out]; omega, ret_e HE.out⟩⟩
        · have HE := Lib.hid (err_end del key value n (by omega) (by omega))
          have d2 : decide (2147483647 < n) = false := decide_eq_false n1
          have HBd := Lib.hid (body_end del key value n (by omega) (by omega))
          obtain ⟨j, rfl⟩ := Int.eq_ofNat_of_zero_le (by omega : 0 ≤ n)
          clear hk1 u1
          have tok1 : True := trivial
          go_enter Try.func22, Try.ntmps22
          go_wp2_with (first | ((with_reducible refine gd_box ?_); have _t := tok1; refine wpList_box_agg rfl _ (.tmp 0) rfl rfl ?_; clear tok1; intro w1 hx1 hB hl1; have y0 := hx1.cellv (i := 0) rfl; have y1 := hx1.cellv (i := 1) rfl; have y2 := hx1.cellv (i := 2) rfl; have y3 := hx1.cellv (i := 3) rfl; have y4 := hx1.cellv (i := 4) rfl) | fail)
          have ho4 := own_new_at (w := w1) (base := w.heap.size) (g := w1.heap.size) (Nat.le_of_lt hx1.lt) rfl 5 #[.int .u8 2] (n := 1) rfl (by simp [maxLen]) (xs := bv [2]) rfl
          replace hB := hB.alloc hB.size (.cells #[.int .u8 2] 5)
          refine (rfour_any _ j _ rfl).mono ?_
          rintro e w3 ⟨vf, rfl, hof, hbf⟩
          replace ho4 := own_ext ho4 hbf
          replace hB := below_step hB hbf
          have hyf := Bytes.own hof
          go_upto_region 17 with (at_builtin; refine wpList_append_bytes rfl (.tmp 63) (.tmp 66) _ rfl w.heap.size hT rfl ho4 rfl hyf (by simp only [fourB_length]; omega) hB.size ?_; intro vz wz hoz hgz hatz; replace hB := below_own hB ho4 (Nat.le_refl _) hgz hB.size)
          have ej : [2] ++ fourB j = 2 :: fourB (j : Int).toNat := rfl
          rw [ej] at hoz
          clear ej
          obtain ⟨L, hL⟩ : ∃ L, L = List.length (Rec.body ⟨2, del, key, value, (j : Int)⟩) := ⟨_, rfl⟩
          obtain ⟨bs, hbs⟩ : ∃ bs, bs = Rec.body ⟨2, del, key, value, (j : Int)⟩ := ⟨_, rfl⟩
          have hLn : 1 + (fourB j).length = L := by rw [hL, HBd.out]; simp [fourB_length] <;> omega
          rw [← HBd.out, ← hbs, hLn] at hoz
          have hbd : L ≤ 16842758 := by rw [hL]; exact body_bd HE.out
          have HN := Lib.hid (show fourB L ++ fourB (crcSum bs).toNat ++ bs = Rec.bytes ⟨2, del, key, value, (j : Int)⟩ from by rw [hL, hbs]; rfl)
          clear hLn hL hbs
          obtain ⟨AX, cX, rfl, hlX, hyX⟩ := own_slice hoz
          have hltX := fun ad (e : AX = some ad) => (hoz.lt ad.block (by rw [e]; rfl)).2
          clear hoz
          go_wp2_with fail
          refine (rfour_any _ L _ rfl).mono ?_
          rintro e w7 ⟨v7, rfl, ho7, hb7⟩
          have hne : ∀ ad, AX = some ad → some ad.block ≠ v7.ownBlock := fun ad e e' => by
            have h1 := hltX ad e
            have h2 := (ho7.lt _ e'.symm).1
            omega
          have hB7 := below_step hB hb7
          replace hyX := hyX.ext hb7
          have hyX' := hyX
          obtain ⟨_, _, _, ee, x1, x2, x3, x4⟩ := hyX'
          cases ee
          go_wp2_with fail
          refine (Crc_any AX L cX bs _ x1 x4 (by omega)).mono ?_
          rintro e w8 ⟨rfl, rfl⟩
          obtain ⟨q1, q2⟩ := crcSum_toNat bs
          go_wp2_with fail
          refine (rfour_any _ (crcSum bs).toNat _ q1.symm).mono ?_
          rintro e w9 ⟨v9, rfl, ho9, hb9⟩
          replace ho7 := own_base (own_ext ho7 hb9) hB.size
          have hB9 := below_step hB7 hb9
          replace hyX := hyX.ext hb9
          have hy9 := Bytes.own ho9
          have tok8 : True := trivial
          go_wp2_with (first
            | (at_builtin; have _t := tok8; refine wpList_append_bytes rfl (.tmp 70) (.tmp 73) _ rfl w.heap.size hT rfl ho7 rfl hy9 (by rw [fourB_length]; omega) hB9.size ?_; clear tok8; intro va wa hoa hga hata; have hBa := below_own hB9 ho7 (Nat.le_refl _) hga hB9.size; replace hyX := hyX.grownB hga hne)
            | (at_builtin; refine wpList_append_bytes rfl (.tmp 74) (.tmp 75) _ rfl w.heap.size hT rfl hoa rfl hyX (by simp only [fourB_length]; omega) hBa.size ?_; intro vb wb hob hgb hatb; have hBb := below_own hBa hoa (Nat.le_refl _) hgb hBa.size))
          go_ret2
          exact packPost_ok hBb HE HN hob
    · have HE := Lib.hid (hk1 (decide_eq_false (by simp only; omega)))
      have u2 : (kind == 2) = false := by rw [beq_eq_false_iff_ne]; exact e2
      clear hk1
      have tok1 : True := trivial
      go_enter Try.func22, Try.ntmps22
      go_wp2_with (first | ((with_reducible refine gd_box ?_); have _t := tok1; refine wpList_box_agg rfl _ (.tmp 0) rfl rfl ?_; clear tok1; intro w1 hx1 hB hl1; have y0 := hx1.cellv (i := 0) rfl; have y1 := hx1.cellv (i := 1) rfl; have y2 := hx1.cellv (i := 2) rfl; have y3 := hx1.cellv (i := 3) rfl; have y4 := hx1.cellv (i := 4) rfl) | fail)
      go_ret2
      exact ⟨hB, .inl ⟨by rw [HE.out]; omega, ret_e HE.out⟩⟩
end Go.Mun
