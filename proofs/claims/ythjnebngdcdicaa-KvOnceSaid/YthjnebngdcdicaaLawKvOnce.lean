/- 'KvOnce' answers true at every input, and leaves what it was given. No condition. -/
import Derived.Test.YthjnebngdcdicaaKvOnceW
import Derived.Test.YthjnebngdcdicaaRows
namespace Go.Proofs.Ythjnebngdcdicaa.KvOnce
open Go Go.RowKit Go.Mun Go.Proofs Go.Maps

open Go.ChangeShapes Go.WideShapes Go.ChangeAt

set_option maxRecDepth 100000 in
theorem lifted (os : Os) (started : os.Started) (H : Type) (enc : TypeId × Value → H) :
    ReturnsInHanded {} Try.checked os 7 .any (Rows.kvOnceSpec.pre6 enc Try.prog Try.f7 Rows.kvOnceRow.domain false) (Rows.kvOnceSpec.post enc Try.prog Try.f7 false true false false) := by
  refine law_lift (C := Try.checked) (ts := [33, 33, 4, 3, 58]) (tb := 4) (by kernel_rfl) started (by kernel_rfl) Try.func7
    (ChangeSpec.witness6 (enc := enc) (C := Try.checked) false ⟨#[], #[.slice none 0 0, .slice none 0 0, .bool false, .int .i64 0, .agg #[.int .i64 0, .int .i64 0, .slice none 0 0]], []⟩ 8 (by kernel_rfl) (by kernel_rfl) (by kernel_rfl) (by kernel_rfl))
    (by kernel_rfl) (by kernel_rfl) (by kernel_rfl) (by kernel_rfl) Try.underlying4 rfl (fun ds h => by match ds, h with | [_, _, _, _, _], _ => rfl) ?_
  intro W vs hl h
  match vs, hl with
  | [v0, v1, v2, v3, v4], _ =>
    have hf1 := h 0 _ v0 rfl rfl
    have hf2 := h 1 _ v1 rfl rfl
    obtain ⟨cp, rfl⟩ := arg_bool Try.underlying4 (h 2 _ v2 rfl rfl)
    obtain ⟨op, rfl, hop⟩ := arg_int Try.underlying3 (h 3 _ v3 rfl rfl)
    have hc := h 4 _ v4 rfl rfl
    obtain ⟨ls, hl'⟩ := arg_slice Try.underlying33 (by kernel_rfl) (opens_op enc) hf1
    obtain ⟨ms, hm'⟩ := arg_slice Try.underlying33 (by kernel_rfl) (opens_op enc) hf2
    obtain ⟨x, vk, rfl, hx, hk⟩ := cr_of hc
    obtain ⟨Ak, nk, ck, rfl, _⟩ := id hk
    by_cases hs1 : SmallL ls
    · by_cases hs2 : SmallL ms
      · by_cases h1 : op < 0
        · exact early3 _ _ ls ms cp op x Ak nk ck W hl' hm' hs1 hs2 h1
        · by_cases h2 : 60 < op
          · exact early4 _ _ ls ms cp op x Ak nk ck W hl' hm' hs1 hs2 h2
          · by_cases h3 : 100 < nk
            · exact early5 _ _ ls ms cp op x Ak nk ck W hl' hm' hs1 hs2 (by omega) (by omega) h3
            · cases cp
              · exact mainW _ _ ls ms op x Ak nk ck W hl' hm' hs1 hs2 (by omega) (by omega) (by omega) hx hk
              · exact mainC _ _ ls ms op x Ak nk ck W hl' hm' hs1 hs2 (by omega) (by omega) (by omega) hx hk
      · exact early2 _ _ ls ms cp op x Ak nk ck W hl' hm' hs1 hs2
    · exact early1 _ _ ls ms cp op x Ak nk ck W hl' hm' hs1

theorem over : Rows.kvOnceRow.holds Try.pinned (OpenSpec.ofChange Rows.kvOnceSpec) :=
  OpenClaim.holds_of_wide 7 Try.f7 rfl rfl rfl rfl rfl rfl rfl ⟨rfl, rfl, rfl, rfl, rfl⟩ rfl rfl rfl rfl rfl (by kernel_rfl) Try.func7 (by kernel_rfl)
    (of_decide_eq_true (by kernel_rfl)) (by unfold Func.isWrapper; first | (rw [if_pos (by decide +kernel)]; kernel_rfl) | (rw [if_neg (by decide +kernel)]; exact ⟨rfl, rfl⟩))
    (fun os started H enc _ => lifted os started H enc)
end Go.Proofs.Ythjnebngdcdicaa.KvOnce
namespace Go.Proofs.Ythjnebngdcdicaa
theorem kvOnce_holds : Rows.KvOnceSaid := KvOnce.over
#print axioms kvOnce_holds
end Go.Proofs.Ythjnebngdcdicaa
