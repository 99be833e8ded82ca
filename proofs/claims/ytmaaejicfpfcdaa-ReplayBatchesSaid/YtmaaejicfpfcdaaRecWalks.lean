/- The walks of record.four, body and Pack. -/
import Derived.Test.YtmaaejicfpfcdaaRecPlain
import Derived.Test.YtmaaejicfpfcdaaCrcWalks
import Derived.Test.YtmaaejicfpfcdaaBlk
namespace Go.Mun
open Go Go.RowKit Go.Proofs

theorem bytesTyR : SliceTy Try.prog 24 5 (.int .u8 0) 1 1 := SliceTy.mk' Try.underlying24 (by kernel_rfl) rfl (by omega)

set_option maxHeartbeats 400000 in
theorem four_any (n : Int) (k : Nat) (w : World) (hn : n = k) (h : k < 4294967296) :
    Calls Try.prog 41 #[.int .i64 n] w fun e w' => ∃ v, e = .returned v ∧ w'.ownsRow w.heap.size 5 1 v 4 (bv (fourB k)) ∧ Below w.heap.size w w' := by
  subst hn
  have hc : bv (fourB k) = #[Value.int .u8 ((k : Int) / 16777216), .int .u8 ((k : Int) / 65536 % 256), .int .u8 ((k : Int) / 256 % 256), .int .u8 ((k : Int) % 256)].toList := by
    rw [fourB_cells]
    have e : ((k / 16777216 : Nat) : Int) % 256 = (k : Int) / 16777216 := by omega
    rw [e]
    rfl
  have HC := Lib.hid hc
  clear hc
  go_enter Try.func41, Try.ntmps41
  go_wp2
  go_ret
  exact ⟨_, rfl, by rw [HC.out]; exact own_new w _ _ rfl (by simp [maxLen]), (Below.refl _ _).alloc (Nat.le_refl _) _⟩

theorem err_end (del : Bool) (key value : List UInt8) (n : Int) (h0 : 0 ≤ n) (h1 : n ≤ 2147483647) : Rec.err ⟨2, del, key, value, n⟩ = 0 := by
  have : Rec.isEnd ⟨2, del, key, value, n⟩ = true := by unfold Rec.isEnd; exact decide_eq_true ⟨rfl, h0, h1⟩
  unfold Rec.err
  rw [if_pos this]
theorem body_end (del : Bool) (key value : List UInt8) (n : Int) (h0 : 0 ≤ n) (h1 : n ≤ 2147483647) : Rec.body ⟨2, del, key, value, n⟩ = 2 :: fourB n.toNat := by
  have : Rec.isEnd ⟨2, del, key, value, n⟩ = true := by unfold Rec.isEnd; exact decide_eq_true ⟨rfl, h0, h1⟩
  unfold Rec.body
  rw [if_pos this]

set_option maxRecDepth 100000 in
set_option maxHeartbeats 1000000 in
theorem body_any (r : Rec) (kv vv : Value) (w : World) (hk : Bytes w kv r.key) (hv : Bytes w vv r.value) (hn1 : -9223372036854775808 ≤ r.n) (hn2 : r.n ≤ 9223372036854775807) :
    Calls Try.prog 40 #[.agg #[.int .i64 r.kind, .bool r.del, kv, vv, .int .i64 r.n]] w fun e w' => Below w.heap.size w w' ∧
      ((r.err ≠ 0 ∧ e = .returned (.tuple #[.slice none 0 0, .int .i64 r.err])) ∨
        (r.err = 0 ∧ ∃ v, e = .returned (.tuple #[v, .int .i64 0]) ∧ w'.ownsRow w.heap.size 5 1 v r.body.length (bv r.body))) := by
  obtain ⟨kind, del, key, value, n⟩ := r
  obtain ⟨A, m, c, rfl, k1, k2, k3, k4⟩ := hk
  obtain ⟨B, m', c', rfl, v1, v2, v3, v4⟩ := hv
  simp only at *
  have hT := bytesTyR
  unfold maxLen at k3 v3
  have hB0 : Below w.heap.size w (w.alloc (.cells #[.int .i64 kind, .bool del, .slice A m c, .slice B m' c', .int .i64 n] 36)) := (Below.refl _ _).alloc (Nat.le_refl _) _
  by_cases e1 : kind = 2 ∧ 0 ≤ n ∧ n ≤ 2147483647
  · obtain ⟨rfl, e2, e3⟩ := e1
    obtain ⟨j, rfl⟩ := Int.eq_ofNat_of_zero_le e2
    go_enter Try.func40, Try.ntmps40
    go_wp2_with fail
    refine (four_any _ j _ rfl (by omega)).mono ?_
    rintro e w2 ⟨v2, rfl, ho2, hb2⟩
    have hB2 := below_step (hB0.alloc hB0.size _) hb2
    have ho1 := own_ext (own_new_at (w := w.alloc (.cells #[.int .i64 2, .bool del, .slice A m c, .slice B m' c', .int .i64 (j : Int)] 36)) (base := w.heap.size) (g := w.heap.size + 1) (by simp) (by simp) 5 #[.int .u8 2] (n := 1) rfl (by simp [maxLen]) (xs := bv [2]) rfl) hb2
    have hy2 := Bytes.own ho2
    go_wp2_with (at_builtin; go_must (refine wpList_append_bytes rfl (.tmp 19) (.tmp 22) _ rfl w.heap.size hT (xs := [2]) rfl ho1 rfl hy2 (by rw [fourB_length]; omega) hB2.size ?_); intro v3 w3 ho3 hg3 hat3)
    have hB3 := below_own hB2 ho1 (Nat.le_refl _) hg3 hB2.size
    go_ret2
    exact ⟨hB3, .inr ⟨err_end _ _ _ _ e2 e3, _, rfl, by rw [body_end _ _ _ _ e2 e3]; exact ho3⟩⟩
  · have hend : Rec.isEnd ⟨kind, del, key, value, n⟩ = false := by unfold Rec.isEnd; exact decide_eq_false e1
    by_cases hk1 : kind = 1
    · subst hk1
      by_cases c1 : 65536 < m
      · have herr : Rec.err ⟨1, del, key, value, n⟩ = 3 := err_long hend rfl (.inl (by simp only; omega))
        have HE := Lib.hid herr
        clear herr
        have d1 : decide ((65536 : Int) < m) = true := by simp; omega
        go_enter Try.func40, Try.ntmps40
        go_wp2
        go_ret2
        exact ⟨hB0, .inl ⟨by rw [HE.out]; omega, ret_e HE.out⟩⟩
      · have d1 : decide ((65536 : Int) < m) = false := by simp; omega
        by_cases c2 : del = false ∧ 16777216 < m'
        · obtain ⟨rfl, c2⟩ := c2
          have herr : Rec.err ⟨1, false, key, value, n⟩ = 3 := err_long hend rfl (.inr ⟨rfl, by simp only; omega⟩)
          have HE := Lib.hid herr
          clear herr
          have d2 : decide ((16777216 : Int) < m') = true := by simp; omega
          go_enter Try.func40, Try.ntmps40
          go_wp2
          go_ret2
          exact ⟨hB0, .inl ⟨by rw [HE.out]; omega, ret_e HE.out⟩⟩
        · have herr : Rec.err ⟨1, del, key, value, n⟩ = 0 := err_fits hend rfl (by simp only; rw [k1, v1]; rintro (h | h); exact c1 h; exact c2 h)
          have HE := Lib.hid herr
          clear herr
          have hy4 : Bytes w (.slice A m c) key := ⟨A, m, c, rfl, k1, k2, by unfold maxLen; exact k3, k4⟩
          have hv4 : Bytes w (.slice B m' c') value := ⟨B, m', c', rfl, v1, v2, by unfold maxLen; exact v3, v4⟩
          cases del
          · have HBd : Hid (Rec.body ⟨1, false, key, value, n⟩ = [1, 0] ++ fourB key.length ++ key ++ value) := body_set hend
            have d2 : decide ((16777216 : Int) < m') = false := by simp at c2 ⊢; omega
            have hm' : m' ≤ 16777216 := by simp at c2; omega
            go_enter Try.func40, Try.ntmps40
            go_wp2_with fail
            refine (four_any _ m _ rfl (by omega)).mono ?_
            rintro e w2 ⟨v2, rfl, ho2, hb2⟩
            have hB2 := below_step (hB0.alloc hB0.size _) hb2
            have hx2 : Blk w2 w.heap.size 36 #[.int .i64 1, .bool false, .slice A m c, .slice B m' c', .int .i64 n] := ((Blk.new _ _ _).alloc _).ext hb2
            have ho1 := own_ext (own_new_at (w := w.alloc (.cells #[.int .i64 1, .bool false, .slice A m c, .slice B m' c', .int .i64 n] 36)) (base := w.heap.size + 1) (g := w.heap.size + 1) (by simp) (by simp) 5 #[.int .u8 1, .int .u8 0] (n := 2) rfl (by simp [maxLen]) (xs := bv [1, 0]) rfl) hb2
            have hs2 : w.heap.size + 1 ≤ w2.heap.size := by have := hb2.size; simp at this; omega
            have hy2 := Bytes.own ho2
            have tok1 : True := trivial
            have tok2 : True := trivial
            have hc2 := hx2.cellv (i := 2) rfl
            go_wp2_with (first
              | (at_builtin; have _t := tok1; refine wpList_append_bytes rfl (.tmp 47) (.tmp 52) _ rfl (w.heap.size + 1) hT (xs := [1, 0]) rfl ho1 rfl hy2 (by rw [fourB_length]; omega) hs2 ?_; clear tok1; intro v3 w3 ho3 hg3 hat3; have hn3 := own_far hx2.lt ho1 (by omega : w.heap.size < w.heap.size + 1); have hx3 := hx2.grown hg3 hn3; have hs3 := Nat.le_trans hs2 hg3.size; have hB3 := below_own hB2 (own_base ho1 (Nat.le_succ _)) (Nat.le_refl _) hg3 hB2.size; have hc2' := hx3.cellv (i := 2) rfl; clear hc2)
              | (at_builtin; have _t := tok2; refine wpList_append_bytes rfl (.tmp 54) (.tmp 57) _ rfl (w.heap.size + 1) hT (xs := [1, 0] ++ fourB m) rfl ho3 rfl (hy4.ext hB3) (by rw [fourB_length]; omega) hs3 ?_; clear tok2; intro v5 w5 ho5 hg5 hat5; have hn5 := own_far hx3.lt ho3 (by omega : w.heap.size < w.heap.size + 1); have hx5 := hx3.grown hg5 hn5; have hs5 := Nat.le_trans hs3 hg5.size; have hB5 := below_own hB3 (own_base ho3 (Nat.le_succ _)) (Nat.le_refl _) hg5 hB3.size; have hc1 := hx5.cellv (i := 1) rfl; have hc3 := hx5.cellv (i := 3) rfl; clear hc2')
              | (at_builtin; refine wpList_append_bytes rfl (.tmp 65) (.tmp 68) _ rfl (w.heap.size + 1) hT rfl ho5 rfl (hv4.ext hB5) (by rw [fourB_length]; omega) hs5 ?_; intro v6 w6 ho6 hg6 hat6; have hB6 := below_own hB5 (own_base ho5 (Nat.le_succ _)) (Nat.le_refl _) hg6 hB5.size))
            go_ret2
            refine ⟨hB6, .inr ⟨HE.out, v6, rfl, ?_⟩⟩
            rw [HBd.out]
            have := own_base ho6 (Nat.le_succ w.heap.size)
            rw [← k1] at this
            have e : 2 + (fourB key.length).length + key.length + value.length = ([1, 0] ++ fourB key.length ++ key ++ value).length := by simp [fourB_length]; omega
            rw [← e]
            exact this
          · have HBd : Hid (Rec.body ⟨1, true, key, value, n⟩ = [1, 1] ++ fourB key.length ++ key) := body_del hend
            clear c2
            go_enter Try.func40, Try.ntmps40
            go_wp2_with fail
            refine (four_any _ m _ rfl (by omega)).mono ?_
            rintro e w2 ⟨v2, rfl, ho2, hb2⟩
            have hB2 := below_step (hB0.alloc hB0.size _) hb2
            have hx2 : Blk w2 w.heap.size 36 #[.int .i64 1, .bool true, .slice A m c, .slice B m' c', .int .i64 n] := ((Blk.new _ _ _).alloc _).ext hb2
            have ho1 := own_ext (own_new_at (w := w.alloc (.cells #[.int .i64 1, .bool true, .slice A m c, .slice B m' c', .int .i64 n] 36)) (base := w.heap.size + 1) (g := w.heap.size + 1) (by simp) (by simp) 5 #[.int .u8 1, .int .u8 0] (n := 2) rfl (by simp [maxLen]) (xs := bv [1, 0]) rfl) hb2
            have hs2 : w.heap.size + 1 ≤ w2.heap.size := by have := hb2.size; simp at this; omega
            have hy2 := Bytes.own ho2
            have tok1 : True := trivial
            have tok2 : True := trivial
            have hc2 := hx2.cellv (i := 2) rfl
            go_wp2_with (first
              | (at_builtin; have _t := tok1; refine wpList_append_bytes rfl (.tmp 47) (.tmp 52) _ rfl (w.heap.size + 1) hT (xs := [1, 0]) rfl ho1 rfl hy2 (by rw [fourB_length]; omega) hs2 ?_; clear tok1; intro v3 w3 ho3 hg3 hat3; have hn3 := own_far hx2.lt ho1 (by omega : w.heap.size < w.heap.size + 1); have hx3 := hx2.grown hg3 hn3; have hs3 := Nat.le_trans hs2 hg3.size; have hB3 := below_own hB2 (own_base ho1 (Nat.le_succ _)) (Nat.le_refl _) hg3 hB2.size; have hc2' := hx3.cellv (i := 2) rfl; clear hc2)
              | (at_builtin; have _t := tok2; refine wpList_append_bytes rfl (.tmp 54) (.tmp 57) _ rfl (w.heap.size + 1) hT (xs := [1, 0] ++ fourB m) rfl ho3 rfl (hy4.ext hB3) (by rw [fourB_length]; omega) hs3 ?_; clear tok2; intro v5 w5 ho5 hg5 hat5; have hn5 := own_far hx3.lt ho3 (by omega : w.heap.size < w.heap.size + 1); have hx5 := hx3.grown hg5 hn5; have hs5 := Nat.le_trans hs3 hg5.size; have hB5 := below_own hB3 (own_base ho3 (Nat.le_succ _)) (Nat.le_refl _) hg5 hB3.size; have hc1 := hx5.cellv (i := 1) rfl; clear hc2'; obtain ⟨g5, cap5, rfl, hg51, hg52⟩ := ho5.form (by omega); have hc5 : w5.cell? ⟨g5, 1, none⟩ = some (.int .u8 0) := (by rw [ho5.cellAt 1 (by omega)]; simp [bv]); have hf5 := ho5.frozenAt 1; have hst := ho5.stored 1 (.int .u8 1); have HST := Lib.hid hst; clear hst)
              | (at_builtin; fail))
            go_ret2
            refine ⟨hB5.setCell (by simp; omega) _, .inr ⟨HE.out, _, rfl, ?_⟩⟩
            rw [HBd.out]
            have := own_base HST.out.1 (Nat.le_succ w.heap.size)
            have e : (bv ([1, 0] ++ fourB m ++ key)).set 1 (.int .u8 1) = bv ([1, 1] ++ fourB m ++ key) := by simp [bv]
            have e2 : ([1, 1] ++ fourB m ++ key).length = 2 + (fourB m).length + m := by simp [fourB_length]; omega
            rw [e, k1] at this
            rw [k1, e2]
            exact this
    · have herr : Rec.err ⟨kind, del, key, value, n⟩ = 1 := err_kind hend hk1
      have HE := Lib.hid herr
      clear herr
      have hk1' : (kind != 1) = true := by simpa using hk1
      by_cases hk2 : kind = 2
      · subst hk2
        by_cases hn0 : n < 0
        · have d1 : decide (0 ≤ n) = false := by simp; omega
          go_enter Try.func40, Try.ntmps40
          go_wp2
          go_ret2
          exact ⟨hB0, .inl ⟨by rw [HE.out]; omega, ret_e HE.out⟩⟩
        · have d1 : decide (0 ≤ n) = true := by simp; omega
          have d2 : decide (n ≤ 2147483647) = false := by simp; omega
          go_enter Try.func40, Try.ntmps40
          go_wp2
          go_ret2
          exact ⟨hB0, .inl ⟨by rw [HE.out]; omega, ret_e HE.out⟩⟩
      · have hk2' : (kind == 2) = false := by simpa using hk2
        go_enter Try.func40, Try.ntmps40
        go_wp2
        go_ret2
        exact ⟨hB0, .inl ⟨by rw [HE.out]; omega, ret_e HE.out⟩⟩

set_option maxRecDepth 100000 in
set_option maxHeartbeats 1000000 in
theorem Pack_any (r : Rec) (kv vv : Value) (w : World) (hk : Bytes w kv r.key) (hv : Bytes w vv r.value) (hn1 : -9223372036854775808 ≤ r.n) (hn2 : r.n ≤ 9223372036854775807) :
    Calls Try.prog 20 #[.agg #[.int .i64 r.kind, .bool r.del, kv, vv, .int .i64 r.n]] w fun e w' => Below w.heap.size w w' ∧
      ((r.err ≠ 0 ∧ e = .returned (.tuple #[.slice none 0 0, .int .i64 r.err])) ∨
        (r.err = 0 ∧ ∃ v, e = .returned (.tuple #[v, .int .i64 0]) ∧ w'.ownsRow w.heap.size 5 1 v r.bytes.length (bv r.bytes))) := by
  have hT := bytesTyR
  have HN := Lib.hid (And.intro hn1 hn2)
  have hB0 : Below w.heap.size w (w.alloc (.cells #[.int .i64 r.kind, .bool r.del, kv, vv, .int .i64 r.n] 36)) := (Below.refl _ _).alloc (Nat.le_refl _) _
  clear hn1 hn2
  by_cases he : r.err = 0
  · have hbd := body_bd he
    have HL := Lib.hid hbd
    have HE := Lib.hid he
    clear he hbd
    have tok1 : True := trivial
    have tok2 : True := trivial
    go_enter Try.func20, Try.ntmps20
    go_wp2_with fail
    refine (body_any r kv vv _ (hk.ext hB0) (hv.ext hB0) HN.out.1 HN.out.2).mono ?_
    rintro e w2 ⟨hb2, ⟨h0, _⟩ | ⟨_, v2, rfl, ho2⟩⟩
    · exact absurd HE.out h0
    · have hB2 := below_step hB0 hb2
      have hy2 := Bytes.own ho2
      generalize hbody : r.body = b at *
      have HBody := Lib.hid hbody
      clear hbody
      obtain ⟨A2, n2, c2, rfl, y1, y2, y3, y4⟩ := hy2
      have hy2 : Bytes w2 (.slice A2 n2 c2) b := ⟨A2, n2, c2, rfl, y1, y2, y3, y4⟩
      have hn2 : n2 ≤ 16842758 := by have := HL.out; omega
      go_wp2_with fail
      refine (four_any _ n2 _ rfl (by omega)).mono ?_
      rintro e w3 ⟨v3, rfl, ho3, hb3⟩
      have hB3 := below_step hB2 hb3
      go_wp2_with fail
      refine (Sum_any _ 1 1 [b] [.slice A2 n2 c2] _ rfl rfl (by omega) (Rd.new _ #[_] _ _) fun i hi => ?_).mono ?_
      · obtain rfl : i = 0 := by omega
        exact (hy2.ext hb3).ext ((Below.refl _ _).alloc (Nat.le_refl _) _)
      rintro e w4 ⟨rfl, rfl⟩
      have hcs := crcSum_bd b
      have hfl : ([b] : List (List UInt8)).flatten = b := by simp
      rw [hfl]
      go_wp2_with fail
      refine (four_any _ (crcSum b).toNat _ (by omega) (by omega)).mono ?_
      rintro e w5 ⟨v5, rfl, ho5, hb5⟩
      have hB4 := hB3.alloc hB3.size (.cells #[.slice A2 n2 c2] 24)
      have hB5 := below_step hB4 hb5
      have ho3' := own_ext (own_base (ho3.alloc (.cells #[.slice A2 n2 c2] 24)) hB2.size) hb5
      have hy5 := Bytes.own ho5
      have hyb := ((hy2.ext hb3).ext ((Below.refl _ _).alloc (Nat.le_refl _) (.cells #[.slice A2 n2 c2] 24))).ext hb5
      have hne : ∀ ad, A2 = some ad → some ad.block ≠ v3.ownBlock := fun ad e e' => by
        subst e
        have h1 := (ho2.lt ad.block rfl).2
        have h2 := (ho3.lt _ e'.symm).1
        omega
      go_wp2_with (first
        | (at_builtin; have _t := tok1; go_must (refine wpList_append_bytes rfl (.tmp 16) (.tmp 20) _ rfl w.heap.size hT rfl ho3' rfl hy5 (by rw [fourB_length]; omega) hB5.size ?_); clear tok1; intro v6 w6 ho6 hg6 hat6; have hB6 := below_own hB5 ho3' (Nat.le_refl _) hg6 hB5.size; have hyb6 := hyb.grownB hg6 hne)
        | (at_builtin; have _t := tok2; refine wpList_append_bytes rfl (.tmp 21) (.tmp 22) _ rfl w.heap.size hT rfl ho6 rfl hyb6 (by simp only [fourB_length]; omega) hB6.size ?_; clear tok2; intro v7 w7 ho7 hg7 hat7; have hB7 := below_own hB6 ho6 (Nat.le_refl _) hg7 hB6.size))
      go_ret2
      refine ⟨hB7, .inr ⟨HE.out, v7, rfl, ?_⟩⟩
      unfold Rec.bytes frameB
      rw [HBody.out, y1]
      have e : (fourB n2 ++ fourB (crcSum b).toNat ++ b).length = 4 + (fourB (crcSum b).toNat).length + b.length := by simp only [List.length_append, fourB_length]
      rw [e]
      exact ho7
  · have he' : (r.err != 0) = true := by simpa using he
    have HE := Lib.hid he
    clear he
    go_enter Try.func20, Try.ntmps20
    go_wp2_with fail
    refine (body_any r kv vv _ (hk.ext hB0) (hv.ext hB0) HN.out.1 HN.out.2).mono ?_
    rintro e w2 ⟨hb2, ⟨_, rfl⟩ | ⟨h0, _⟩⟩
    · go_wp2
      go_ret2
      exact ⟨below_step hB0 hb2, .inl ⟨HE.out, rfl⟩⟩
    · exact absurd h0 HE.out
end Go.Mun
