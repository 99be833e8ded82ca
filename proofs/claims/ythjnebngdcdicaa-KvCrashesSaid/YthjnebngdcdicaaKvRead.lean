/- replay.Read of many bytes. -/
import Derived.Test.YthjnebngdcdicaaKvPure
namespace Go.Mun
open Go Go.RowKit Go.Proofs

set_option maxRecDepth 100000 in
set_option maxHeartbeats 4000000 in
theorem Read_kv (v : Value) (b : List UInt8) (w : World) (hbb : Bytes w v b) (hlen : b.length ≤ 1390000) :
    Calls Try.prog 30 #[v] w fun e w' => ∃ v', e = .returned (.tuple #[v', .int .i64 ((batches b).2 : Nat)]) ∧ SliceOf 1 (rSlice 3 rOp) w' v' (batches b).1 ∧ Below w.heap.size w w' := by
  obtain ⟨A, n, c, rfl, h1, h2, h3, h4⟩ := id hbb
  obtain ⟨RES, hRES⟩ : ∃ R, R = batches b := ⟨_, rfl⟩
  rw [← hRES]
  have HRES := Lib.hid (show batB b (b.length + 1) 0 0 [] [] = RES from hRES.symm)
  have HBB := Lib.hid hbb
  have HL := Lib.hid h1
  clear hRES h4 hbb
  unfold maxLen at h3
  rw [h1] at hlen
  have hT := bytesTyR
  have hTO := opsTy
  have hTU := outTy
  have hR := recTy
  have zR := zRec_info
  clear h1
  go_enter Try.func30, Try.ntmps30
  go_wp2
  go_loopw [4, 5, 6, 7] (fun vo vl sw sa wr => ∃ (F at_ wh : Nat) (l : List Rec) (out : List (List Rec)) (cl co : List Value), sw = .int .i64 wh ∧ sa = .int .i64 at_ ∧ at_ ≤ n ∧ n < F + at_ ∧ batB b F at_ wh l out = RES ∧ Below w.heap.size w wr ∧
      14 * l.length ≤ at_ ∧ out.length ≤ at_ ∧ wr.ownsRow w.heap.size 32 3 vl l.length cl ∧ Stays wr (Rows2 vl vo) (fun w' => OpsC w' cl l) ∧ wr.ownsRow w.heap.size 33 1 vo out.length co ∧ Stays wr (Rows2 vl vo) (fun w' => OutC w' co out) ∧ Apart vl vo) (fun _ _ _ s _ => n - (RowKit.intOf s).toNat)
  case atStart => exact ⟨n + 1, 0, 0, [], [], [], [], rfl, rfl, Nat.zero_le _, by omega, by rw [← HL.out]; exact HRES.out, Below.refl _ _, Nat.zero_le _, Nat.zero_le _, World.ownsRow_nil _ _ _ _, (fun w' _ _ => OpsC.nil w'), World.ownsRow_nil _ _ _ _, (fun w' _ _ => OutC.nil w'), Apart.nil _⟩
  case round =>
    obtain ⟨F, at_, wh, l, out, cl, co, rfl, rfl, hat, hF, hbat, hBr, hll, hol, hcl, hsl, hco, hso, hap⟩ := hrel
    obtain ⟨F, rfl⟩ : ∃ F', F = F' + 1 := ⟨F - 1, by omega⟩
    have HSL := Lib.hid hsl
    have HSO := Lib.hid hso
    have HAP := Lib.hid hap
    clear hsl hso hap
    obtain ⟨A1, hrun1, hcut1⟩ := cut_l hT A n c (kl := .i64) (lo' := (at_ : Nat)) (lo := at_) rfl hat
    have hby := hcut1 _ _ (HBB.out.ext hBr)
    clear hcut1
    have hok := next_ok (b := b.drop at_)
    unfold batB at hbat
    obtain ⟨⟨x, k, E⟩, hxe⟩ : ∃ x, x = nextB (b.drop at_) := ⟨_, rfl⟩
    have HN := Lib.hid (show nextB (b.drop at_) = (x, k, E) from hxe.symm)
    rw [HN.out] at hbat hok
    simp only at hbat hok
    clear hxe
    have hop := next_op (b := b.drop at_)
    rw [HN.out] at hop
    simp only at hop
    rw [List.length_drop, HL.out] at hok
    have tk1 : True := trivial
    go_wp2_with fail
    refine (Next_any _ _ _ hby).mono ?_
    rintro e w8 ⟨hb8, cs8, rfl, hcs8⟩
    rw [HN.out] at hcs8 ⊢
    have hB8 := below_step hBr hb8
    obtain ⟨kv, vv, rfl, hk8, hv8⟩ : RecO _ w8 x cs8 := hcs8
    obtain ⟨AK, cK, rfl⟩ := own_sl hk8
    obtain ⟨AV, cV, rfl⟩ := own_sl hv8
    have arm : True := trivial
    by_cases hE : E = 0
    · subst hE
      obtain ⟨hk9, hkn, hkind⟩ := hok rfl
      rw [if_neg (by decide)] at hbat
      have h14 := hop rfl
      clear hop
      obtain ⟨kind, del, key, value, nn⟩ := x
      simp only at hkind hbat hk8 hv8 h14
      rcases hkind with ⟨rfl, rfl⟩ | ⟨rfl, hn0, hn1⟩
      · replace h14 := h14 rfl
        rw [if_pos rfl] at hbat
        go_wp2_with (first
          | ((with_reducible refine gd_alloc ?_); have _t := tk1; refine wpList_alloc_blk rfl 97 rfl zR ?_; clear tk1; intro w9 hx9 hb9 hl9)
          | ((with_reducible refine gd_store ?_); refine wpList_store_all rfl 97 (.tmp 8) (.tmp 16) rfl #[.int .i64 1, .bool del, .slice AK key.length cK, .slice AV value.length cV, .int .i64 0] hx9 hR rfl rfl rfl rfl ?_; intro w10 hx10 hg10; have hb10 := below_blk hb9 hb9.size hg10 (Nat.le_refl _); have y0 := hx10.cellv (i := 0) rfl; have y1 := hx10.cellv (i := 1) rfl; have y2 := hx10.cellv (i := 2) rfl; have y3 := hx10.cellv (i := 3) rfl)
          | (refine wpList_row_one rfl (.tmp 31) rfl hTO (by decide) (cs := #[.bool del, .slice AK key.length cK, .slice AV value.length cV]) rfl rfl ?_; intro w11 hx11 hb11 hl11; have hb811 := below_step hb10 hb11; have hbr := below_step hb8 hb811; have hcl11 := own_ext hcl hbr; have hB11 := below_step hBr hbr)
          | (at_builtin; refine wpList_append_rd _ rfl (.tmp 29) (.tmp 32) _ rfl w.heap.size _ _ 3 56 hTO _ _ _ rfl hcl11 (some ⟨w10.heap.size, 0, none⟩) 1 1 (opC ⟨1, del, key, value, 0⟩ (.slice AK key.length cK) (.slice AV value.length cV)) rfl rfl hx11.rd (by intro u hu; simp only [opC, List.mem_cons, List.not_mem_nil, or_false] at hu; rcases hu with rfl | rfl | rfl <;> rfl) (by unfold maxLen; omega) (by omega) hB11.size ?_; intro vl12 w12 hcl12 hg12 hat12)
          | fail)
        have hB12 := below_own hB11 hcl11 (Nat.le_refl _) hg12 hB11.size
        have hco12 := far_row (own_ext hco hbr) hg12 HAP.out
        have hap12 := apart_new (own_ext hco hbr) HAP.out hat12
        have sl := stay_app (c := u4) hcl hbr hg12 hat12 (bad := Rows2 u5 u4) (bad1 := Rows2 vl12 u4) (fun _ h => h) (fun _ h => h) HSL.out
        have so := stay_app (c := u4) hcl hbr hg12 hat12 (bad := Rows2 u5 u4) (bad1 := Rows2 vl12 u4) (fun _ h => h) (fun _ h => h) HSO.out
        have sk := stay_new hcl hco hbr hg12 hat12 (bad1 := Rows2 vl12 u4) (fun _ h => h) (own_ext hk8 hb811)
        have sv := stay_new hcl hco hbr hg12 hat12 (bad1 := Rows2 vl12 u4) (fun _ h => h) (own_ext hv8 hb811)
        have sl2 := ((sl.and sk).and sv).imp (Q := fun w' => OpsC w' (cl ++ opC ⟨1, del, key, value, 0⟩ (.slice AK key.length cK) (.slice AV value.length cV)) (l ++ [⟨1, del, key, value, 0⟩])) fun w' h => h.1.1.more rfl rfl (Bytes.own h.1.2) (Bytes.own h.2)
        go_roundw
        case rel =>
          refine ⟨F, at_ + k, wh, l ++ [⟨1, del, key, value, 0⟩], out, _, co, ?_, ?_, by omega, by omega, hbat, hB12, by simp; omega, by omega, by simpa using hcl12, sl2, hco12, so, hap12⟩ <;> go_num
        case measure => simp [RowKit.intOf]; omega
      · clear h14
        rw [if_neg (by decide)] at hbat
        by_cases hnl : nn = (l.length : Int)
        · rw [if_neg (by rw [hnl]; simp)] at hbat
          obtain ⟨AL, cL, hvl⟩ := own_sl hcl
          subst hvl
          have HAP2 := HAP.out
          have d1 : ((nn : Int) != (l.length : Int)) = false := by rw [bne_eq_false_iff_eq]; exact hnl
          have d2 : decide ((100000 : Int) < (l.length : Int)) = false := decide_eq_false (by omega)
          have d3 : decide (nn = (l.length : Int)) = true := decide_eq_true hnl
          clear hnl
          go_wp2_with (first
            | ((with_reducible refine gd_alloc ?_); have _t := tk1; refine wpList_alloc_blk rfl 97 rfl zR ?_; clear tk1; intro w9 hx9 hb9 hl9)
            | ((with_reducible refine gd_store ?_); refine wpList_store_all rfl 97 (.tmp 8) (.tmp 16) rfl #[.int .i64 2, .bool del, .slice AK key.length cK, .slice AV value.length cV, .int .i64 nn] hx9 hR rfl rfl rfl rfl ?_; intro w10 hx10 hg10; have hb10 := below_blk hb9 hb9.size hg10 (Nat.le_refl _); have y0 := hx10.cellv (i := 0) rfl; have y4 := hx10.cellv (i := 4) rfl)
            | (refine wpList_row_val rfl (.tmp 47) rfl hTU (by decide) rfl rfl ?_; intro w11 hx11 hb11 hl11; have hb811 := below_step hb10 hb11; have hbr := below_step hb8 hb811; have hcl11 := own_ext hcl hbr; have hco11 := own_ext hco hbr; have hB11 := below_step hBr hbr)
            | (at_builtin; refine wpList_append_rd _ rfl (.tmp 46) (.tmp 48) _ rfl w.heap.size _ _ 1 24 hTU _ _ _ rfl hco11 (some ⟨w10.heap.size, 0, none⟩) 1 1 [.slice AL l.length cL] rfl rfl hx11.rd (by intro u hu; rw [List.mem_singleton.1 hu]; rfl) (by unfold maxLen; omega) (by omega) hB11.size ?_; intro vo12 w12 hco12 hg12 hat12)
            | fail)
          have hB12 := below_own hB11 hco11 (Nat.le_refl _) hg12 hB11.size
          have hcl12 := far_row hcl11 hg12 HAP2.symm
          have hap12 := apart_new hcl11 HAP2.symm hat12
          have so := stay_app (c := .slice AL l.length cL) hco hbr hg12 hat12 (bad := Rows2 (.slice AL l.length cL) u4) (bad1 := Rows2 (.slice none 0 0) vo12) (fun _ h => h.symm) (fun _ h => h.elim (fun e => by cases e) .inl) HSO.out
          have sl := stay_app (c := .slice AL l.length cL) hco hbr hg12 hat12 (bad := Rows2 (.slice AL l.length cL) u4) (bad1 := Rows2 (.slice none 0 0) vo12) (fun _ h => h.symm) (fun _ h => h.elim (fun e => by cases e) .inl) HSL.out
          have sr := Stays.own (bad := Rows2 (.slice none 0 0) vo12) hcl12 (fun k hk hb => hb.elim (fun e => by cases e) (fun e => hap12 k e hk))
          have so2 := ((so.and sl).and sr).imp (Q := fun w' => OutC w' (co ++ [.slice AL l.length cL]) (out ++ [l])) fun w' h => h.1.1.more (slice_of_own h.2 rfl h.1.2.2)
          go_roundw
          case rel =>
            refine ⟨F, at_ + k, at_ + k, [], out ++ [l], [], _, ?_, ?_, by omega, by omega, hbat, hB12, by simp, by simp; omega, World.ownsRow_nil _ _ _ _, (fun w' _ _ => OpsC.nil w'), by simpa using hco12, so2, Apart.nil _⟩ <;> go_num
          case measure => simp [RowKit.intOf]; omega
        · rw [if_pos hnl] at hbat
          obtain ⟨AL, cL, hvl⟩ := own_sl hcl
          subst hvl
          have d1 : ((nn : Int) != (l.length : Int)) = true := by rw [bne_iff_ne]; exact hnl
          have d3 : decide (nn = (l.length : Int)) = false := decide_eq_false hnl
          go_wp2_with (first
            | ((with_reducible refine gd_alloc ?_); have _t := tk1; refine wpList_alloc_blk rfl 97 rfl zR ?_; clear tk1; intro w9 hx9 hb9 hl9)
            | ((with_reducible refine gd_store ?_); refine wpList_store_all rfl 97 (.tmp 8) (.tmp 16) rfl #[.int .i64 2, .bool del, .slice AK key.length cK, .slice AV value.length cV, .int .i64 nn] hx9 hR rfl rfl rfl rfl ?_; intro w10 hx10 hg10; have hb10 := below_blk hb9 hb9.size hg10 (Nat.le_refl _); have y0 := hx10.cellv (i := 0) rfl; have y4 := hx10.cellv (i := 4) rfl)
            | fail)
          subst hbat
          go_ret2
          have hbr := below_step hb8 hb10
          exact ⟨_, rfl, ret_out hco HSO.out hbr, below_step hBr hbr⟩
    · clear hop
      have hEb : (E != 0) = true := by rw [bne_iff_ne]; exact hE
      have hEd : decide (E = 0) = false := decide_eq_false hE
      rw [if_pos hE] at hbat
      go_wp2_with (first
          | ((with_reducible refine gd_alloc ?_); have _t := tk1; refine wpList_alloc_blk rfl 97 rfl zR ?_; clear tk1; intro w9 hx9 hb9 hl9)
          | ((with_reducible refine gd_store ?_); refine wpList_store_all rfl 97 (.tmp 8) (.tmp 16) rfl #[.int .i64 x.kind, .bool x.del, .slice AK x.key.length cK, .slice AV x.value.length cV, .int .i64 x.n] hx9 hR rfl rfl rfl rfl ?_; intro w10 hx10 hg10; have hb10 := below_blk hb9 hb9.size hg10 (Nat.le_refl _))
          | fail)
      subst hbat
      go_ret2
      have hbr := below_step hb8 hb10
      exact ⟨_, rfl, ret_out hco HSO.out hbr, below_step hBr hbr⟩
end Go.Mun
