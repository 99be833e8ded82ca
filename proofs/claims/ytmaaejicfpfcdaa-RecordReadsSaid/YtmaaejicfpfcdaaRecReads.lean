/- 'munimentslaw21.RecordReads' answers true at every input, and leaves what it was given. No condition. -/
import Derived.Test.YtmaaejicfpfcdaaRecArg
import Derived.Test.YtmaaejicfpfcdaaRecNextX
import Derived.Test.YtmaaejicfpfcdaaRows
namespace Go.Proofs.Ytmaaejicfpfcdaa.RecordReads
open Go Go.RowKit Go.Mun Go.Proofs

theorem same_self (r : Rec) : r.sameB r = true := by
  unfold Rec.sameB
  by_cases h : r.kind = 2 <;> simp [h]

set_option maxRecDepth 100000 in
set_option maxHeartbeats 8000000 in
theorem walk (v : Value) (b : List UInt8) (w : World) (hbb : Bytes w v b) :
    Calls Try.prog 7 #[v] w fun e w' => e = .returned (.bool true) ∧ Below w.heap.size w w' := by
  have hT := bytesTyR
  have hR := recTy
  have zR := zRec_info
  obtain ⟨A, n, c, rfl, h1, h2, h3, h4⟩ := id hbb
  clear h4
  unfold maxLen at h3
  by_cases c1 : 3000 < n
  · have d1 : decide ((3000 : Int) < (n : Int)) = true := decide_eq_true (by omega)
    go_enter Try.func7, Try.ntmps7
    go_wp2_with fail
    refine (alive21 _).mono ?_
    rintro e w1 ⟨rfl, hb1⟩
    go_wp2
    go_ret
    exact ⟨rfl, hb1⟩
  have d1 : decide ((3000 : Int) < (n : Int)) = false := decide_eq_false (by omega)
  go_enter Try.func7, Try.ntmps7
  go_wp2_with fail
  refine (alive21 _).mono ?_
  rintro e w1 ⟨rfl, hB⟩
  have hnil : w1.ownsRow w1.heap.size 5 1 (.slice none 0 0) 0 (bv []) := ⟨rfl, .inl ⟨rfl, rfl⟩⟩
  have hb1 := hbb.ext hB
  go_wp2_with (at_builtin; refine wpList_append_bytes rfl (.const (.slice none 0 0)) (.tmp 20) _ rfl w1.heap.size hT (xs := []) rfl hnil rfl hb1 (by omega) (Nat.le_refl _) ?_; intro va wa hoa hga hata; have hBa := below_own (Below.refl w1.heap.size w1) hnil (Nat.le_refl _) hga (Nat.le_refl _))
  rw [List.nil_append] at hoa
  replace hB := below_step hB hBa
  refine (Next_any _ _ _ (Bytes.own hoa)).mono ?_
  rintro e w2 ⟨hb2, cs2, rfl, hcs2⟩
  replace hB := below_step hB hb2
  have HX := Lib.hid (NextRecord_any (.slice A n c) b)
  clear hnil hb1 hga hata hBa hoa
  generalize hR0 : nextB b = R at *
  have HR0 := Lib.hid hR0
  clear hR0
  obtain ⟨r, k, E⟩ := R
  simp only at hcs2
  obtain ⟨kv, vv, rfl, hk, hv⟩ := hcs2
  have hoK := own_one hk
  have hoV := own_one hv
  have tok1 : True := trivial
  have tok2 : True := trivial
  go_wp2_with (first
    | ((with_reducible refine gd_alloc ?_); have _t := tok1; refine wpList_alloc_blk rfl 36 rfl zR ?_; clear tok1; intro w3 hx3 hb3 hlq)
    | ((with_reducible refine gd_store ?_); have _t := tok2; refine wpList_store_all rfl 36 (.tmp 4) (.tmp 23) rfl #[.int .i64 r.kind, .bool r.del, kv, vv, .int .i64 r.n] hx3 hR rfl (by simp only [oneAll, hoK, hoV]; rfl) (by rfl) (by rfl) ?_; clear tok2; intro w4 hx4 hgq; have hbq := below_blk hb3 hb3.size hgq (Nat.le_refl _); replace hB := below_step hB hbq; replace hk := own_ext hk hbq; replace hv := own_ext hv hbq)
    | fail)
  refine (HX.out w4 (hbb.ext hB)).mono ?_
  rintro e w5 ⟨hb5, cs5, rfl, hcs5⟩
  rw [HR0.out] at hcs5 ⊢
  replace hB := below_step hB hb5
  replace hk := own_ext hk hb5
  replace hv := own_ext hv hb5
  replace hx4 := hx4.ext hb5
  obtain ⟨kv5, vv5, rfl, hk5, hv5⟩ : RecO _ w5 r cs5 := hcs5
  clear hoK hoV
  have hoK := own_one hk5
  have hoV := own_one hv5
  have tok3 : True := trivial
  have tok4 : True := trivial
  have tok5 : True := trivial
  go_upto_region 6 with (first
    | ((with_reducible refine gd_alloc ?_); have _t := tok3; refine wpList_alloc_blk rfl 36 rfl zR ?_; clear tok3; intro w6 hx6 hb6 hlq)
    | ((with_reducible refine gd_store ?_); have _t := tok4; refine wpList_store_all rfl 36 (.tmp 7) (.tmp 29) rfl #[.int .i64 r.kind, .bool r.del, kv5, vv5, .int .i64 r.n] hx6 hR rfl (by simp only [oneAll, hoK, hoV]; rfl) (by rfl) (by rfl) ?_; clear tok4; intro w8 hx8 hgq; have hbq := below_blk hb6 hb6.size hgq (Nat.le_refl _); replace hB := below_step hB hbq; replace hx4 := hx4.ext hbq; replace hk := own_ext hk hbq; replace hv := own_ext hv hbq; replace hk5 := own_ext hk5 hbq; replace hv5 := own_ext hv5 hbq)
    | fail)
  go_wp2_with (first
    | (go_at_call 21; refine (num21 _ _).mono ?_; rintro e w' ⟨rfl, rfl⟩)
    | ((with_reducible refine gd_load ?_); have _t := tok5; refine wpList_load_want (by rfl) 36 (.tmp 4) rfl hx4 hR rfl ?_; clear tok5)
    | ((with_reducible refine gd_load ?_); refine wpList_load_want (by rfl) 36 (.tmp 7) rfl hx8 hR rfl ?_)
    | fail)
  refine (SameRecord_any r r _ _ _ _ _ (Bytes.own hk) (Bytes.own hv) (Bytes.own hk5) (Bytes.own hv5)).mono ?_
  rintro e w10 ⟨rfl, hb10⟩
  rw [same_self]
  go_wp2
  go_ret
  exact ⟨rfl, below_step hB hb10⟩
open Go.ChangeShapes Go.WideShapes Go.ChangeAt

set_option maxRecDepth 100000 in
theorem lifted (os : Os) (started : os.Started) (H : Type) (enc : TypeId × Value → H) :
    ReturnsInHanded {} Try.checked os 7 .any (Rows.recordReadsSpec.pre6 enc Try.prog Try.f7 Rows.recordReadsRow.domain false) (Rows.recordReadsSpec.post enc Try.prog Try.f7 false true false false) := by
  refine law_lift (C := Try.checked) (ts := [24]) (tb := 4) (by kernel_rfl) started (by kernel_rfl) Try.func7
    (ChangeSpec.witness6 (enc := enc) (C := Try.checked) false ⟨#[], #[.slice none 0 0], []⟩ 8 (by kernel_rfl) (by kernel_rfl) (by kernel_rfl) (by kernel_rfl))
    (by kernel_rfl) (by kernel_rfl) (by kernel_rfl) (by kernel_rfl) Try.underlying4 rfl (fun ds h => by match ds, h with | [_], _ => rfl) ?_
  intro W vs hl h
  match vs, hl with
  | [v0], _ =>
    obtain ⟨b, hb⟩ := arg_bytes Try.underlying24 Try.underlying5 (by kernel_rfl) (h 0 _ v0 rfl rfl)
    exact walk v0 b W hb

theorem over : Rows.recordReadsRow.holds Try.pinned (OpenSpec.ofChange Rows.recordReadsSpec) :=
  OpenClaim.holds_of_wide 7 Try.f7 rfl rfl rfl rfl rfl rfl rfl ⟨rfl, rfl, rfl, rfl, rfl⟩ rfl rfl rfl rfl rfl (by kernel_rfl) Try.func7 (by kernel_rfl)
    (of_decide_eq_true (by kernel_rfl)) (by unfold Func.isWrapper; first | (rw [if_pos (by decide +kernel)]; kernel_rfl) | (rw [if_neg (by decide +kernel)]; exact ⟨rfl, rfl⟩))
    (fun os started H enc _ => lifted os started H enc)
end Go.Proofs.Ytmaaejicfpfcdaa.RecordReads
namespace Go.Proofs.Ytmaaejicfpfcdaa
theorem recordReads_holds : Rows.RecordReadsSaid := RecordReads.over
#print axioms recordReads_holds
end Go.Proofs.Ytmaaejicfpfcdaa
