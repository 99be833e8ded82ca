/- 'munimentslaw21.RecordTurned' answers true at every input, and leaves what it was given. No condition. -/
import Derived.Test.YtmaaejicfpfcdaaRecArg
import Derived.Test.YtmaaejicfpfcdaaRecAlive
import Derived.Test.YtmaaejicfpfcdaaRows
import Derived.Deep.Cut
namespace Go.Proofs.Ytmaaejicfpfcdaa.RecordTurned
open Go Go.RowKit Go.Mun Go.Proofs

theorem err_num (E : Int) (h : E = 0 ∨ E ≠ 0) : (E != 0) = decide (E ≠ 0) := by
  rcases h with h | h
  · subst h; rfl
  · rw [decide_eq_true h, bne_iff_ne]; exact h

set_option maxRecDepth 100000 in
set_option maxHeartbeats 4000000 in
theorem early (r : Rec) (kv vv : Value) (at_ : Int) (y : UInt8) (w : World) (hk : Bytes w kv r.key) (hv : Bytes w vv r.value)
    (hc : 1000 < r.key.length ∨ 1000 < r.value.length ∨ at_ < 0 ∨ y = 0) :
    Calls Try.prog 8 #[.agg #[.int .i64 r.kind, .bool r.del, kv, vv, .int .i64 r.n], .int .i64 at_, .int .u8 (y.toNat : Int)] w fun e w' => e = .returned (.bool true) ∧ Below w.heap.size w w' := by
  obtain ⟨kind, del, key, value, n⟩ := r
  obtain ⟨A, m, c, rfl, k1, k2, k3, k4⟩ := id hk
  obtain ⟨B, m', c', rfl, v1, v2, v3, v4⟩ := id hv
  simp only at *
  clear k4 v4
  have tok1 : True := trivial
  by_cases c1 : 1000 < m
  · have d1 : decide ((1000 : Int) < m) = true := decide_eq_true (by omega)
    go_enter Try.func8, Try.ntmps8
    go_wp2_with (first | ((with_reducible refine gd_box ?_); have _t := tok1; refine wpList_box_agg rfl _ (.tmp 0) rfl rfl ?_; clear tok1; intro w1 hx1 hB hl1) | fail)
    refine (alive21 _).mono ?_
    rintro e w2 ⟨rfl, hb2⟩
    replace hx1 := hx1.ext hb2
    replace hB := below_step hB hb2
    have y2 := hx1.cellv (i := 2) rfl
    go_wp2
    go_ret
    exact ⟨rfl, hB⟩
  have d1 : decide ((1000 : Int) < m) = false := decide_eq_false (by omega)
  by_cases c2 : 1000 < m'
  · have d2 : decide ((1000 : Int) < m') = true := decide_eq_true (by omega)
    go_enter Try.func8, Try.ntmps8
    go_wp2_with (first | ((with_reducible refine gd_box ?_); have _t := tok1; refine wpList_box_agg rfl _ (.tmp 0) rfl rfl ?_; clear tok1; intro w1 hx1 hB hl1) | fail)
    refine (alive21 _).mono ?_
    rintro e w2 ⟨rfl, hb2⟩
    replace hx1 := hx1.ext hb2
    replace hB := below_step hB hb2
    have y2 := hx1.cellv (i := 2) rfl
    have y3 := hx1.cellv (i := 3) rfl
    go_wp2
    go_ret
    exact ⟨rfl, hB⟩
  have d2 : decide ((1000 : Int) < m') = false := decide_eq_false (by omega)
  by_cases c3 : at_ < 0
  · have d3 : decide (at_ < 0) = true := decide_eq_true c3
    go_enter Try.func8, Try.ntmps8
    go_wp2_with (first | ((with_reducible refine gd_box ?_); have _t := tok1; refine wpList_box_agg rfl _ (.tmp 0) rfl rfl ?_; clear tok1; intro w1 hx1 hB hl1) | fail)
    refine (alive21 _).mono ?_
    rintro e w2 ⟨rfl, hb2⟩
    replace hx1 := hx1.ext hb2
    replace hB := below_step hB hb2
    have y2 := hx1.cellv (i := 2) rfl
    have y3 := hx1.cellv (i := 3) rfl
    go_wp2
    go_ret
    exact ⟨rfl, hB⟩
  have d3 : decide (at_ < 0) = false := decide_eq_false c3
  have hy : y = 0 := by rcases hc with h | h | h | h <;> first | omega | exact h
  subst hy
  go_enter Try.func8, Try.ntmps8
  go_wp2_with (first | ((with_reducible refine gd_box ?_); have _t := tok1; refine wpList_box_agg rfl _ (.tmp 0) rfl rfl ?_; clear tok1; intro w1 hx1 hB hl1) | fail)
  refine (alive21 _).mono ?_
  rintro e w2 ⟨rfl, hb2⟩
  replace hx1 := hx1.ext hb2
  replace hB := below_step hB hb2
  have y2 := hx1.cellv (i := 2) rfl
  have y3 := hx1.cellv (i := 3) rfl
  go_wp2
  go_ret
  exact ⟨rfl, hB⟩

theorem num_n (n : Int) (w : World) : Calls Try.prog 21 #[.int .i64 n] w fun e w' => e = .returned (.int .i64 n) ∧ w = w' := num21 n w

set_option maxRecDepth 100000 in
set_option maxHeartbeats 8000000 in
theorem late (r : Rec) (kv vv : Value) (j : Nat) (hj : j ≤ 9223372036854775807) (y : UInt8) (w : World) (hk : Bytes w kv r.key) (hv : Bytes w vv r.value) (hn1 : -9223372036854775808 ≤ r.n) (hn2 : r.n ≤ 9223372036854775807)
    (c1' : r.key.length ≤ 1000) (c2' : r.value.length ≤ 1000) (hy : y ≠ 0) :
    Calls Try.prog 8 #[.agg #[.int .i64 r.kind, .bool r.del, kv, vv, .int .i64 r.n], .int .i64 (j : Int), .int .u8 (y.toNat : Int)] w fun e w' => e = .returned (.bool true) ∧ Below w.heap.size w w' := by
  have hT := bytesTyR
  have hR := recTy
  have zR := zRec_info
  obtain ⟨A, m, c, rfl, k1, k2, k3, k4⟩ := id hk
  obtain ⟨B, m', c', rfl, v1, v2, v3, v4⟩ := id hv
  clear k4 v4
  have d1 : decide ((1000 : Int) < m) = false := decide_eq_false (by omega)
  have d2 : decide ((1000 : Int) < m') = false := decide_eq_false (by omega)
  have hyn : y.toNat ≠ 0 := fun e => hy (UInt8.toNat_inj.1 e)
  have d4 : ((y.toNat : Int) == 0) = false := by rw [beq_eq_false_iff_ne]; omega
  have HY := Lib.hid hy
  clear hy
  have hyb := y.toNat_lt
  have HP := Lib.hid (fun w' (h : Below w.heap.size w w') => Pack_any r (.slice A m c) (.slice B m' c') w' (hk.ext h) (hv.ext h) hn1 hn2)
  have hEs := err_small r
  clear k1 v1 c1' c2' hk hv
  have tok1 : True := trivial
  go_enter Try.func8, Try.ntmps8
  go_wp2_with (first | ((with_reducible refine gd_box ?_); have _t := tok1; refine wpList_box_agg rfl _ (.tmp 0) rfl rfl ?_; clear tok1; intro w1 hx1 hB hl1) | fail)
  refine (alive21 _).mono ?_
  rintro e w2 ⟨rfl, hb2⟩
  replace hx1 := hx1.ext hb2
  replace hB := below_step hB hb2
  have y2 := hx1.cellv (i := 2) rfl
  have y3 := hx1.cellv (i := 3) rfl
  go_upto_region 4 with (fail)
  go_wp2_with (first | ((with_reducible refine gd_load ?_); refine wpList_load_blk rfl 36 (.tmp 3) rfl hx1 hR rfl ?_) | fail)
  refine (HP.out _ hB).mono ?_
  have hBz := hB.size
  rintro e w3 ⟨hb3, ⟨he, rfl⟩ | ⟨he, v, rfl, ho⟩⟩
  · replace hB := below_step hB hb3
    generalize r.err = E at *
    have hE : (E != 0) = true := by rw [bne_iff_ne]; exact he
    clear he
    go_wp2_with (go_at_call 21; refine (num21 _ _).mono ?_; rintro e w' ⟨rfl, rfl⟩)
    go_ret
    exact ⟨rfl, hB⟩
  replace hB := below_step hB hb3
  clear y2 y3 hx1
  have HE := Lib.hid he
  have hlen : 13 ≤ r.bytes.length := by rw [bytes_length]; have := body_five r; omega
  have hlen2 : r.bytes.length ≤ 16842766 := by have := body_bd he; rw [bytes_length]; omega
  have HS := Lib.hid (fun k (hk : k < r.bytes.length) => next_short he hk)
  have HT := Lib.hid (fun k (hk : k < r.bytes.length) (h4 : 4 ≤ k) z (hz : z ≠ r.bytes.getD k 0) => next_turned he hk h4 (by rw [List.getD_eq_getElem?_getD, List.getElem?_eq_getElem hk] at hz; exact hz))
  clear he HP hEs HE
  generalize r.bytes = bs at *
  have hlbs := ho
  obtain ⟨Ab, cb, rfl, _, hyb3⟩ := own_slice ho
  obtain ⟨g, cap, hform, hg1, hg2⟩ := ho.form (by omega)
  cases hform
  generalize hL : bs.length = L at *
  obtain ⟨k, hmod, hk0⟩ : ∃ k : Nat, (j : Int) % (L : Int) = (k : Int) ∧ k < L := ⟨j % L, by omega, Nat.mod_lt _ (by omega)⟩
  have hLc : L ≤ cb := by obtain ⟨_, _, _, e, _, q, _⟩ := id hyb3; cases e; omega
  obtain ⟨Ac, hrc, hbc⟩ := cut_h hT (some ⟨g, 0, none⟩) L cb (kh := .i64) (hi' := (k : Int)) (hi := k) rfl (by omega)
  have HBC := Lib.hid (hbc _ _ hyb3 (by omega))
  clear hbc
  have hL1 : (L : Int) ≠ 0 := by omega
  have hL2 : ((L : Int) == 0) = false := by rw [beq_eq_false_iff_ne]; omega
  go_upto_region 8 with (go_at_call 21; refine (num21 _ _).mono ?_; rintro e w' ⟨rfl, rfl⟩)
  go_wp2_with fail
  refine (Next_any _ _ _ HBC.out).mono ?_
  rintro e w4 ⟨hb4, cs4, rfl, hcs4⟩
  rw [HS.out k hk0] at hcs4 ⊢
  replace hB := below_step hB hb4
  replace ho := own_ext ho hb4
  obtain ⟨kv4, vv4, rfl, hk4, hv4⟩ : RecO _ w4 Rec.zero cs4 := hcs4
  have hoK := own_one hk4
  have hoV := own_one hv4
  have tok2 : True := trivial
  have tok3 : True := trivial
  go_upto_region 9 with (first
    | ((with_reducible refine gd_alloc ?_); have _t := tok2; refine wpList_alloc_blk rfl 36 rfl zR ?_; clear tok2; intro w5 hx5 hb5 hl5)
    | ((with_reducible refine gd_store ?_); have _t := tok3; refine wpList_store_all rfl 36 (.tmp 11) (.tmp 60) rfl #[.int .i64 Rec.zero.kind, .bool Rec.zero.del, kv4, vv4, .int .i64 Rec.zero.n] hx5 hR rfl (by simp only [oneAll, hoK, hoV]; rfl) (by rfl) (by rfl) ?_; clear tok3; intro w6 hx6 hg6; have hb6 := below_blk hb5 hb5.size hg6 (Nat.le_refl _); replace hB := below_step hB hb6)
    | fail)
  replace ho := own_ext ho hb6
  clear hx5 hx6 hg6 hb5 hl5 hk4 hv4 hoK hoV hb6 hb4 hlbs HBC
  by_cases k4 : k < 4
  · have dk : decide ((k : Int) < 4) = true := decide_eq_true (by omega)
    go_wp2_with (go_at_call 21; refine (num21 _ _).mono ?_; rintro e w' ⟨rfl, rfl⟩)
    go_ret
    exact ⟨rfl, hB⟩
  have dk : decide ((k : Int) < 4) = false := decide_eq_false (by omega)
  have i0 : (0 : Int) ≤ (k : Int) := by omega
  have i1 : (k : Int) < (L : Int) := by omega
  have hcell := ho.cellAt k (by omega)
  have hbk : (bv bs)[k]? = some (.int .u8 ((bs.getD k 0).toNat : Int)) := by rw [bv_get (by omega), List.getD_eq_getElem?_getD, List.getElem?_eq_getElem (by omega)]; rfl
  rw [hbk] at hcell
  clear hbk
  have hfro := ho.frozenAt k
  have hst := ho.stored k (.int .u8 ((bs.getD k 0 ^^^ y).toNat : Int))
  rw [bv_set] at hst
  have HST := Lib.hid hst
  clear hst
  have hxl := (bs.getD k 0).toNat_lt
  have hxor : bits .xor .u8 ((bs.getD k 0).toNat : Int) (y.toNat : Int) = ((bs.getD k 0 ^^^ y).toNat : Int) := by rw [u8_xor_nat _ _ hxl hyb, UInt8.toNat_xor]
  have HZ := Lib.hid (HT.out k hk0 (by omega) (bs.getD k 0 ^^^ y) (xor_ne HY.out))
  have hB7 : Below w.heap.size w (w6.setCell ⟨g, k, none⟩ (.int .u8 ((bs.getD k 0 ^^^ y).toNat : Int))) := hB.setCell (by have := (ho.lt g rfl).1; have := hBz; simp; omega) _
  generalize bs.getD k 0 = x at *
  generalize x ^^^ y = z at *
  generalize x.toNat = x' at *
  go_upto_region 14 with (go_at_call 21; refine (num21 _ _).mono ?_; rintro e w' ⟨rfl, rfl⟩)
  go_wp2_with fail
  refine (Next_any _ (bs.set k z) _ (Bytes.own HST.out.1)).mono ?_
  rintro e w8 ⟨hb8, cs8, rfl, hcs8⟩
  rw [HZ.out] at hcs8 ⊢
  replace hB7 := below_step hB7 hb8
  obtain ⟨kv4, vv4, rfl, hk4, hv4⟩ : RecO _ w8 Rec.zero cs8 := hcs8
  have hoK := own_one hk4
  have hoV := own_one hv4
  have tok2 : True := trivial
  have tok3 : True := trivial
  go_wp2_with (first
    | (go_at_call 21; refine (num21 _ _).mono ?_; rintro e w' ⟨rfl, rfl⟩)
    | ((with_reducible refine gd_alloc ?_); have _t := tok2; refine wpList_alloc_blk rfl 36 rfl zR ?_; clear tok2; intro w5 hx5 hb5 hl5)
    | ((with_reducible refine gd_store ?_); have _t := tok3; refine wpList_store_all rfl 36 (.tmp 14) (.tmp 84) rfl #[.int .i64 Rec.zero.kind, .bool Rec.zero.del, kv4, vv4, .int .i64 Rec.zero.n] hx5 hR rfl (by simp only [oneAll, hoK, hoV]; rfl) (by rfl) (by rfl) ?_; clear tok3; intro w9 hx9 hg9; have hb9 := below_blk hb5 hb5.size hg9 (Nat.le_refl _); replace hB7 := below_step hB7 hb9)
    | fail)
  go_ret
  exact ⟨rfl, hB7⟩
open Go.ChangeShapes Go.WideShapes Go.ChangeAt

set_option maxRecDepth 100000 in
theorem lifted (os : Os) (started : os.Started) (H : Type) (enc : TypeId × Value → H) :
    ReturnsInHanded {} Try.checked os 8 .any (Rows.recordTurnedSpec.pre6 enc Try.prog Try.f8 Rows.recordTurnedRow.domain false) (Rows.recordTurnedSpec.post enc Try.prog Try.f8 false true false false) := by
  refine law_lift (C := Try.checked) (ts := [36, 3, 5]) (tb := 4) (by kernel_rfl) started (by kernel_rfl) Try.func8
    (ChangeSpec.witness6 (enc := enc) (C := Try.checked) false ⟨#[], #[.agg #[.int .i64 0, .bool false, .slice none 0 0, .slice none 0 0, .int .i64 0], .int .i64 0, .int .u8 0], []⟩ 8 (by kernel_rfl) (by kernel_rfl) (by kernel_rfl) (by kernel_rfl))
    (by kernel_rfl) (by kernel_rfl) (by kernel_rfl) (by kernel_rfl) Try.underlying4 rfl (fun ds h => by match ds, h with | [_, _, _], _ => rfl) ?_
  intro W vs hl h
  match vs, hl with
  | [v0, v1, v2], _ =>
    have hr := h 0 _ v0 rfl rfl
    obtain ⟨j, rfl, hj⟩ := arg_int Try.underlying3 (h 1 _ v1 rfl rfl)
    obtain ⟨y, rfl⟩ := arg_byte Try.underlying5 (h 2 _ v2 rfl rfl)
    obtain ⟨rr, kv, vv, rfl, hk, hv, hn1, hn2⟩ := rec_of hr
    have hjb := bounds_i64 hj
    by_cases hc : 1000 < rr.key.length ∨ 1000 < rr.value.length ∨ j < 0 ∨ y = 0
    · exact early rr kv vv j y W hk hv hc
    · obtain ⟨j, rfl⟩ := Int.eq_ofNat_of_zero_le (by omega : 0 ≤ j)
      exact late rr kv vv j (by omega) y W hk hv hn1 hn2 (by omega) (by omega) (fun h => hc (.inr (.inr (.inr h))))

theorem over : Rows.recordTurnedRow.holds Try.pinned (OpenSpec.ofChange Rows.recordTurnedSpec) :=
  OpenClaim.holds_of_wide 8 Try.f8 rfl rfl rfl rfl rfl rfl rfl ⟨rfl, rfl, rfl, rfl, rfl⟩ rfl rfl rfl rfl rfl (by kernel_rfl) Try.func8 (by kernel_rfl)
    (of_decide_eq_true (by kernel_rfl)) (by unfold Func.isWrapper; first | (rw [if_pos (by decide +kernel)]; kernel_rfl) | (rw [if_neg (by decide +kernel)]; exact ⟨rfl, rfl⟩))
    (fun os started H enc _ => lifted os started H enc)
end Go.Proofs.Ytmaaejicfpfcdaa.RecordTurned
namespace Go.Proofs.Ytmaaejicfpfcdaa
theorem recordTurned_holds : Rows.RecordTurnedSaid := RecordTurned.over
#print axioms recordTurned_holds
end Go.Proofs.Ytmaaejicfpfcdaa
