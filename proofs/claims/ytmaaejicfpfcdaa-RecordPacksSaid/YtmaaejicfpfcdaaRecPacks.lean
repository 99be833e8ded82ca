/- 'munimentslaw21.RecordPacks' answers true at every input, and leaves what it was given. No condition. -/
import Derived.Test.YtmaaejicfpfcdaaRecArg
import Derived.Test.YtmaaejicfpfcdaaRecRef
import Derived.Test.YtmaaejicfpfcdaaRows
namespace Go.Proofs.Ytmaaejicfpfcdaa.RecordPacks
open Go Go.RowKit Go.Mun Go.Proofs

set_option maxRecDepth 100000 in
set_option maxHeartbeats 4000000 in
theorem early (r : Rec) (kv vv mv : Value) (more : List UInt8) (w : World) (hk : Bytes w kv r.key) (hv : Bytes w vv r.value) (hm : Bytes w mv more)
    (hc : 2000 < r.key.length ∨ 2000 < r.value.length ∨ 500 < more.length) :
    Calls Try.prog 6 #[.agg #[.int .i64 r.kind, .bool r.del, kv, vv, .int .i64 r.n], mv] w fun e w' => e = .returned (.bool true) ∧ Below w.heap.size w w' := by
  obtain ⟨A, m, c, rfl, k1, k2, k3, k4⟩ := id hk
  obtain ⟨B, m', c', rfl, v1, v2, v3, v4⟩ := id hv
  obtain ⟨C, m2, c2, rfl, w1, w2, w3, w4⟩ := id hm
  clear k4 v4 w4
  have tok1 : True := trivial
  by_cases c1 : 2000 < m
  · have d1 : decide ((2000 : Int) < m) = true := decide_eq_true (by omega)
    clear k1 v1 w1
    go_enter Try.func6, Try.ntmps6
    go_wp2_with (first | ((with_reducible refine gd_box ?_); have _t := tok1; refine wpList_box_agg rfl _ (.tmp 0) rfl rfl ?_; clear tok1; intro w1 hx1 hB hl1) | fail)
    refine (alive21 _).mono ?_
    rintro e w2 ⟨rfl, hb2⟩
    replace hx1 := hx1.ext hb2
    replace hB := below_step hB hb2
    have y2 := hx1.cellv (i := 2) rfl
    have y3 := hx1.cellv (i := 3) rfl
    go_wp2
    go_ret
    exact ⟨rfl, hB⟩
  have d1 : decide ((2000 : Int) < m) = false := decide_eq_false (by omega)
  by_cases c2 : 2000 < m'
  · have d2 : decide ((2000 : Int) < m') = true := decide_eq_true (by omega)
    clear k1 v1 w1
    go_enter Try.func6, Try.ntmps6
    go_wp2_with (first | ((with_reducible refine gd_box ?_); have _t := tok1; refine wpList_box_agg rfl _ (.tmp 0) rfl rfl ?_; clear tok1; intro w1 hx1 hB hl1) | fail)
    refine (alive21 _).mono ?_
    rintro e w2 ⟨rfl, hb2⟩
    replace hx1 := hx1.ext hb2
    replace hB := below_step hB hb2
    have y2 := hx1.cellv (i := 2) rfl
    have y3 := hx1.cellv (i := 3) rfl
    go_wp2
    go_ret
    exact ⟨rfl, hB⟩
  have d2 : decide ((2000 : Int) < m') = false := decide_eq_false (by omega)
  have d3 : decide ((500 : Int) < m2) = true := decide_eq_true (by omega)
  clear k1 v1 w1
  go_enter Try.func6, Try.ntmps6
  go_wp2_with (first | ((with_reducible refine gd_box ?_); have _t := tok1; refine wpList_box_agg rfl _ (.tmp 0) rfl rfl ?_; clear tok1; intro w1 hx1 hB hl1) | fail)
  refine (alive21 _).mono ?_
  rintro e w2 ⟨rfl, hb2⟩
  replace hx1 := hx1.ext hb2
  replace hB := below_step hB hb2
  have y2 := hx1.cellv (i := 2) rfl
  have y3 := hx1.cellv (i := 3) rfl
  go_wp2
  go_ret
  exact ⟨rfl, hB⟩

set_option maxRecDepth 100000 in
set_option maxHeartbeats 8000000 in
theorem late (r : Rec) (kv vv mv : Value) (more : List UInt8) (w : World) (hk : Bytes w kv r.key) (hv : Bytes w vv r.value) (hm : Bytes w mv more) (hn1 : -9223372036854775808 ≤ r.n) (hn2 : r.n ≤ 9223372036854775807)
    (hc1 : r.key.length ≤ 2000) (hc2 : r.value.length ≤ 2000) (hc3 : more.length ≤ 500) :
    Calls Try.prog 6 #[.agg #[.int .i64 r.kind, .bool r.del, kv, vv, .int .i64 r.n], mv] w fun e w' => e = .returned (.bool true) ∧ Below w.heap.size w w' := by
  have hT := bytesTyR
  have hR := recTy
  have zR := zRec_info
  obtain ⟨A, m, c, rfl, k1, k2, k3, k4⟩ := id hk
  obtain ⟨B, m', c', rfl, v1, v2, v3, v4⟩ := id hv
  obtain ⟨C, m2, c2, rfl, z1, z2, z3, z4⟩ := id hm
  clear k4 v4 z4
  have d1 : decide ((2000 : Int) < m) = false := decide_eq_false (by omega)
  have d2 : decide ((2000 : Int) < m') = false := decide_eq_false (by omega)
  have d3 : decide ((500 : Int) < m2) = false := decide_eq_false (by omega)
  clear k1 v1 z1 hc1 hc2
  have HK := Lib.hid hk
  have HV := Lib.hid hv
  have HM := Lib.hid hm
  have tok1 : True := trivial
  go_enter Try.func6, Try.ntmps6
  go_wp2_with (first | ((with_reducible refine gd_box ?_); have _t := tok1; refine wpList_box_agg rfl _ (.tmp 0) rfl rfl ?_; clear tok1; intro w1 hx1 hB hl1) | fail)
  refine (alive21 _).mono ?_
  rintro e w2 ⟨rfl, hb2⟩
  replace hx1 := hx1.ext hb2
  replace hB := below_step hB hb2
  have y2 := hx1.cellv (i := 2) rfl
  have y3 := hx1.cellv (i := 3) rfl
  go_upto_region 4 with (fail)
  go_wp2_with (first | ((with_reducible refine gd_load ?_); refine wpList_load_blk rfl 36 (.tmp 2) rfl hx1 hR rfl ?_) | fail)
  refine (Pack_any r _ _ _ (hk.ext hB) (hv.ext hB) hn1 hn2).mono ?_
  rintro e w3 ⟨hb3, ⟨he, rfl⟩ | ⟨he, v, rfl, ho⟩⟩
  · replace hB := below_step hB hb3
    replace hx1 := hx1.ext hb3
    go_upto_region 5 with (fail)
    go_wp2_with (first | ((with_reducible refine gd_load ?_); refine wpList_load_blk rfl 36 (.tmp 2) rfl hx1 hR rfl ?_) | fail)
    refine (PackRecord_any r _ _ _ (hk.ext hB) (hv.ext hB) hn1 hn2).mono ?_
    rintro e w4 ⟨hb4, ⟨_, rfl⟩ | ⟨he2, _⟩⟩
    · replace hB := below_step hB hb4
      generalize r.err = E at *
      have hE : (E != 0) = true := by rw [bne_iff_ne]; exact he
      have hq := run_str (P := Try.prog) (src := 24) (dst := 9) (Bytes.nil w4) Try.underlying24 Try.underlying5 Try.underlying9
      clear he
      go_wp2_with (first | (go_at_call 21; refine (num21 _ _).mono ?_; rintro e w' ⟨rfl, rfl⟩) | fail)
      go_ret
      exact ⟨rfl, hB⟩
    · exact absurd he2 he
  replace hB := below_step hB hb3
  replace hx1 := hx1.ext hb3
  go_upto_region 5 with (fail)
  go_wp2_with (first | ((with_reducible refine gd_load ?_); refine wpList_load_blk rfl 36 (.tmp 2) rfl hx1 hR rfl ?_) | fail)
  refine (PackRecord_any r _ _ _ (hk.ext hB) (hv.ext hB) hn1 hn2).mono ?_
  rintro e w4 ⟨hb4, ⟨he2, _⟩ | ⟨_, v2, rfl, ho2⟩⟩
  · exact absurd he he2
  replace hB := below_step hB hb4
  replace hx1 := hx1.ext hb4
  replace ho := own_ext ho hb4
  have HN := Lib.hid (next_pack he more)
  have HS := Lib.hid (same_norm he)
  have hlen2 : r.bytes.length ≤ 16842766 := by have := body_bd he; rw [bytes_length]; omega
  clear he
  generalize r.bytes = bs at *
  obtain ⟨Ab, cb, rfl, _, hyb⟩ := own_slice ho
  obtain ⟨Ac, cc, rfl, _, hyc⟩ := own_slice ho2
  have hq1 := run_str (P := Try.prog) (src := 24) (dst := 9) hyb Try.underlying24 Try.underlying5 Try.underlying9
  have hq2 := run_str (P := Try.prog) (src := 24) (dst := 9) hyc Try.underlying24 Try.underlying5 Try.underlying9
  go_upto_region 10 with (first | (go_at_call 21; refine (num21 _ _).mono ?_; rintro e w' ⟨rfl, rfl⟩) | fail)
  generalize hL : bs.length = L at *
  have HL := Lib.hid hL
  have hL2 : bs.length ≤ 16842766 := by omega
  clear hL hq1 hq2
  have tokA : True := trivial
  have hnil : w4.ownsRow w4.heap.size 5 1 (.slice none 0 0) 0 (bv []) := ⟨rfl, .inl ⟨rfl, rfl⟩⟩
  have hmm := hm.ext hB
  have hB4 := Below.refl w4.heap.size w4
  go_wp2_with (first
    | (at_builtin; have _t := tokA; refine wpList_append_bytes rfl (.const (.slice none 0 0)) (.tmp 60) _ rfl w4.heap.size hT (xs := []) rfl hnil rfl hyb (by omega) (Nat.le_refl _) ?_; clear tokA; intro va wa hoa hga hata; have hBa := below_own hB4 hnil (Nat.le_refl _) hga (Nat.le_refl _); have hma := hmm.ext hBa)
    | (at_builtin; refine wpList_append_bytes rfl (.tmp 61) (.tmp 62) _ rfl w4.heap.size hT rfl hoa rfl hma (by omega) hBa.size ?_; intro vb wb hob hgb hatb; have hBb := below_own hBa hoa (Nat.le_refl _) hgb hBa.size))
  have hyn := Bytes.own hob
  refine (Next_any _ _ _ hyn).mono ?_
  rintro e w8 ⟨hb8, cs8, rfl, hcs8⟩
  rw [List.nil_append, HN.out] at hcs8 ⊢
  have hB8 := below_step hBb hb8
  replace hB := below_step hB hB8
  replace hx1 := hx1.ext hB8
  obtain ⟨kv4, vv4, rfl, hk4, hv4⟩ : RecO _ w8 r.norm cs8 := hcs8
  have hoK := own_one hk4
  have hoV := own_one hv4
  have hg1 := hx1.lt
  have tok2 : True := trivial
  have tok3 : True := trivial
  have tokB : True := trivial
  go_upto_region 11 with (first
    | ((with_reducible refine gd_alloc ?_); have _t := tok2; refine wpList_alloc_blk rfl 36 rfl zR ?_; clear tok2; intro w5 hx5 hb5 hl5)
    | ((with_reducible refine gd_store ?_); have _t := tok3; refine wpList_store_all rfl 36 (.tmp 10) (.tmp 65) rfl #[.int .i64 r.norm.kind, .bool r.norm.del, kv4, vv4, .int .i64 r.norm.n] hx5 hR rfl (by simp only [oneAll, hoK, hoV]; rfl) (by rfl) (by rfl) ?_; clear tok3; intro w9 hx9 hg9; have hb9 := below_blk hb5 hb5.size hg9 (Nat.le_refl _); replace hB := below_step hB hb9; replace hx1 := hx1.ext hb9; replace hk4 := own_ext hk4 hb9; replace hv4 := own_ext hv4 hb9)
    | fail)
  go_wp2_with (first
    | (go_at_call 21; refine (num21 _ _).mono ?_; rintro e w' ⟨rfl, rfl⟩)
    | ((with_reducible refine gd_load ?_); have _t := tokB; refine wpList_load_want (by rfl) 36 (.tmp 2) rfl hx1 hR rfl ?_; clear tokB)
    | ((with_reducible refine gd_load ?_); refine wpList_load_want (by rfl) 36 (.tmp 10) rfl hx9 hR rfl ?_)
    | fail)
  refine (SameRecord_any r r.norm _ _ _ _ _ (HK.out.ext hB) (HV.out.ext hB) (Bytes.own hk4) (Bytes.own hv4)).mono ?_
  rintro e w10 ⟨rfl, hb10⟩
  rw [HS.out]
  go_wp2
  go_ret
  exact ⟨rfl, below_step hB hb10⟩
open Go.ChangeShapes Go.WideShapes Go.ChangeAt

set_option maxRecDepth 100000 in
theorem lifted (os : Os) (started : os.Started) (H : Type) (enc : TypeId × Value → H) :
    ReturnsInHanded {} Try.checked os 6 .any (Rows.recordPacksSpec.pre6 enc Try.prog Try.f6 Rows.recordPacksRow.domain false) (Rows.recordPacksSpec.post enc Try.prog Try.f6 false true false false) := by
  refine law_lift (C := Try.checked) (ts := [36, 24]) (tb := 4) (by kernel_rfl) started (by kernel_rfl) Try.func6
    (ChangeSpec.witness6 (enc := enc) (C := Try.checked) false ⟨#[], #[.agg #[.int .i64 0, .bool false, .slice none 0 0, .slice none 0 0, .int .i64 0], .slice none 0 0], []⟩ 8 (by kernel_rfl) (by kernel_rfl) (by kernel_rfl) (by kernel_rfl))
    (by kernel_rfl) (by kernel_rfl) (by kernel_rfl) (by kernel_rfl) Try.underlying4 rfl (fun ds h => by match ds, h with | [_, _], _ => rfl) ?_
  intro W vs hl h
  match vs, hl with
  | [v0, v1], _ =>
    have hr := h 0 _ v0 rfl rfl
    obtain ⟨m, hm⟩ := arg_bytes Try.underlying24 Try.underlying5 (by kernel_rfl) (h 1 _ v1 rfl rfl)
    obtain ⟨rr, kv, vv, rfl, hk, hv, hn1, hn2⟩ := rec_of hr
    by_cases hc : 2000 < rr.key.length ∨ 2000 < rr.value.length ∨ 500 < m.length
    · exact early rr kv vv v1 m W hk hv hm hc
    · exact late rr kv vv v1 m W hk hv hm hn1 hn2 (by omega) (by omega) (by omega)

theorem over : Rows.recordPacksRow.holds Try.pinned (OpenSpec.ofChange Rows.recordPacksSpec) :=
  OpenClaim.holds_of_wide 6 Try.f6 rfl rfl rfl rfl rfl rfl rfl ⟨rfl, rfl, rfl, rfl, rfl⟩ rfl rfl rfl rfl rfl (by kernel_rfl) Try.func6 (by kernel_rfl)
    (of_decide_eq_true (by kernel_rfl)) (by unfold Func.isWrapper; first | (rw [if_pos (by decide +kernel)]; kernel_rfl) | (rw [if_neg (by decide +kernel)]; exact ⟨rfl, rfl⟩))
    (fun os started H enc _ => lifted os started H enc)
end Go.Proofs.Ytmaaejicfpfcdaa.RecordPacks
namespace Go.Proofs.Ytmaaejicfpfcdaa
theorem recordPacks_holds : Rows.RecordPacksSaid := RecordPacks.over
#print axioms recordPacks_holds
end Go.Proofs.Ytmaaejicfpfcdaa
