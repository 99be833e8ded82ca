/- The example of chapter 23. -/
import Derived.Test.YthjnebngdcdicaaKvSize
namespace Go.Mun
open Go Go.RowKit Go.Proofs Go.Maps

theorem Get_some {j q p N : Nat} {S : PLB} {clean dead : Bool} {o : Own} {w : World} (h : KvAt j q p S clean dead o N w) (kv : Value) (key val : List UInt8) (hk : Bytes w kv key) (hg : getP S key = some val) :
    Calls Try.prog 14 #[.pointer (some ⟨q, 0, none⟩), kv] w fun e w' => ∃ v, e = .returned (.tuple #[v, .bool true]) ∧ w'.ownsRow w.heap.size 5 1 v val.length (bv val) ∧ Below w.heap.size w w' := by
  refine (Get_any h kv key hk).mono ?_
  rintro e w' ⟨v, h1, h2, h3⟩
  rw [hg] at h1
  unfold getB at h2
  rw [hg] at h2
  exact ⟨v, h1, h2, h3⟩
theorem Get_none {j q p N : Nat} {S : PLB} {clean dead : Bool} {o : Own} {w : World} (h : KvAt j q p S clean dead o N w) (kv : Value) (key : List UInt8) (hk : Bytes w kv key) (hg : getP S key = none) :
    Calls Try.prog 14 #[.pointer (some ⟨q, 0, none⟩), kv] w fun e w' => ∃ v, e = .returned (.tuple #[v, .bool false]) ∧ w'.ownsRow w.heap.size 5 1 v 0 (bv []) ∧ Below w.heap.size w w' := by
  refine (Get_any h kv key hk).mono ?_
  rintro e w' ⟨v, h1, h2, h3⟩
  rw [hg] at h1
  unfold getB at h2
  rw [hg] at h2
  exact ⟨v, h1, h2, h3⟩
set_option maxRecDepth 100000 in
set_option maxHeartbeats 4000000 in
theorem alive23_any (w : World) : Calls Try.prog 9 #[] w fun e w' => e = .returned (.bool true) ∧ Below w.heap.size w w' := by
  have hbT := bytesTyC
  have hTO := opsTy
  have N0 := Lib.hid (New_up (w0 := w) (w := w) (o := fun _ => none) 0 (fun _ _ => rfl) (Below.refl _ _) (fun _ _ => rfl))
  have f1 : FitS [] := ⟨List.Pairwise.nil, Nat.zero_le _, fun e he => absurd he List.not_mem_nil⟩
  obtain ⟨S2, hS2⟩ : ∃ x, x = doneP [] [⟨1, false, [97], [49], 0⟩] := ⟨_, rfl⟩
  have hG2 : getP S2 [97] = some [49] := by rw [hS2]; rfl
  have f2 : FitS (doneP [] [⟨1, false, [97], [49], 0⟩]) := fit_one (by decide) (fun r hr => by rw [List.mem_singleton.1 hr]; exact ⟨rfl, rfl, by decide, by decide⟩)
  have hw : WideL [⟨1, false, [97], [49], 0⟩] := ⟨by decide, fun r hr => by rw [List.mem_singleton.1 hr]; exact ⟨rfl, rfl, by decide, by decide⟩⟩
  have hb1 := batch_1000 hw
  have hs2 := whole_1000 f2
  have hl2 : (doneP [] [⟨1, false, [97], [49], 0⟩] : PLB).length = 1 := rfl
  have NU := Lib.hid num_any
  have OP1 := Lib.hid (fun p o1 w1 (h : Up 0 p newM [] 1 0 0 0 o1 w w1) => Open_up (j := 1) h f1 (by decide) (by omega) (by omega) (by omega))
  have WR := Lib.hid (fun p q c o2 w2 vl (h : UpK 0 1 p q newM [] c 1 0 0 0 0 o2 w w2) (hl : SliceOf 3 rOp w2 vl [⟨1, false, [97], [49], 0⟩]) => Write_up (B' := 3000) h (by decide) hl hw f2 (by omega) (by omega) (by omega) (by omega) (by have := hb1; simp only [List.length_singleton] at this; omega) (by omega))
  rw [← hS2] at WR f2
  clear hS2 hs2 hl2 hb1
  have OP2 := Lib.hid (fun p M o1 w1 (h : Up 0 p M S2 2 3000 10 3000 o1 w w1) => Open_up (j := 2) h f2 (by decide) (by omega) (by omega) (by omega))
  have HG2 := Lib.hid hG2
  have tok : True := trivial
  have tok2 : True := trivial
  clear hG2
  go_enter Try.func9, Try.ntmps9
  go_wp2_with (first
    | (go_at_call 10; (refine N0.out.mono ?_); rintro e w1 ⟨p, o1, rfl, h1, T1⟩)
    | (go_at_call 11; have _t := tok; (refine (OP1.out p o1 w1 h1).mono ?_); rintro e w2 ⟨q, rfl, cl, o2, h2, T2, _⟩; clear tok)
    | (go_at_call 13; (refine (NU.out _ _).mono ?_); rintro e wn ⟨rfl, rfl⟩)
    | ((with_reducible refine gd_rowC ?_); have _t := tok2; refine wpList_row_val (v := .int .u8 97) rfl (.const (.int .u8 97)) rfl hbT (by decide) rfl rfl ?_; intro w3 hx3 hb3 hl3; clear tok2)
    | ((with_reducible refine gd_convert ?_); refine wpList_lit rfl (.tmp 23) rfl u8sTy u8Ty rfl hx3 (l := [97]) rfl rfl (Nat.le_refl _) (by decide) ?_; intro w4 hg4 hs4 B4; clear hs4)
    | ((with_reducible refine gd_rowC ?_); refine wpList_row_val (v := .int .u8 49) rfl (.const (.int .u8 49)) rfl hbT (by decide) rfl rfl ?_; intro w5 hx5 hb5 hl5; have hb4 := below_blk hb3 hb3.size hg4 (Nat.le_refl _); have hb25 := below_step hb4 hb5)
    | ((with_reducible refine gd_convert ?_); refine wpList_lit rfl (.tmp 25) rfl u8sTy u8Ty rfl hx5 (l := [49]) rfl rfl (Nat.le_refl _) (by decide) ?_; intro w6 hg6 hs6 B6; clear hs6; have hb46 := below_blk hb5 hb5.size hg6 (Nat.le_refl _); have hb26 := below_step hb4 hb46)
    | (refine wpList_row_one rfl (.tmp 27) rfl hTO (by decide) (cs := #[.bool false, .slice (some ⟨w2.heap.size, 0, none⟩) 1 1, .slice (some ⟨w4.heap.size, 0, none⟩) 1 1]) rfl rfl ?_; intro w7 hx7 hb7 hl7; have hb27 := below_step hb26 hb7; have HOPS := Lib.hid (ops_one (r := ⟨1, false, [97], [49], 0⟩) hx7 (B4.ext (below_step hb46 hb7)) (B6.ext hb7) rfl rfl))
    | (go_at_call 12; (refine (WR.out p q cl o2 w7 _ (h2.ext hb27) HOPS.out).mono ?_); rintro e w8 ⟨rfl, M8, oa, o8, wa, h8, Ta, Tb⟩; have HU8 := Lib.hid h8.up)
    | (go_at_call 11; (refine (OP2.out p M8 o8 w8 HU8.out).mono ?_); rintro e w9 ⟨q9, rfl, cl9, o9, h9, T9, _⟩)
    | ((with_reducible refine gd_rowC ?_); refine wpList_row_val (v := .int .u8 97) rfl (.const (.int .u8 97)) rfl hbT (by decide) rfl rfl ?_; intro w10 hx10 hb10 hl10)
    | ((with_reducible refine gd_convert ?_); refine wpList_lit rfl (.tmp 49) rfl u8sTy u8Ty rfl hx10 (l := [97]) rfl rfl (Nat.le_refl _) (by decide) ?_; intro w11 hg11 hs11 B11; clear hs11; have hb11 := below_blk hb10 hb10.size hg11 (Nat.le_refl _))
    | (go_at_call 14; (refine (Get_some (h9.kv.ext hb11) _ [97] [49] B11 HG2.out).mono ?_); rintro e w12 ⟨v12, rfl, ho12, hb12⟩; have yq := run_str (P := Try.prog) (src := 22) (dst := 9) (Bytes.own ho12) Try.underlying22 Try.underlying5 Try.underlying9)
    | fail)
  go_ret
  exact ⟨rfl, ((h9.ext hb11).ext hb12).fs.below⟩
end Go.Mun
