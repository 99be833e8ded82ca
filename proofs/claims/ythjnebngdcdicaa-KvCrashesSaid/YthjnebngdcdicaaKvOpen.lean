/- kv.Open. -/
import Derived.Test.YthjnebngdcdicaaKvRead
import Derived.Test.YthjnebngdcdicaaKvLive
import Derived.Test.YthjnebngdcdicaaKvDisk
import Derived.Test.YthjnebngdcdicaaKvWhole
import Derived.StillTailTactics
namespace Go.Mun
open Go Go.RowKit Go.Proofs Go.Maps

theorem kvTy : AggTy Try.prog 71 4 := ⟨⟨_, Try.underlying71, rfl⟩, by kernel_rfl⟩
/-- a pair of a row of pairs, whose value is a row of its own -/
theorem pairO_row {base : Nat} {w w' : World} {A : Option Addr} {n c : Nat} {xs : List Value} {S : PLB} (hx : RowC 2 (rPairO base) w xs S) (hn : S.length = n) (hb : w'.ownsRow base 51 2 (.slice A n c) n xs) {k : Nat} (hk : k < n) :
    ∃ (ad : Addr) (p : PairB) (kv vv : Value), A = some ad ∧ S[k]? = some p ∧ w'.cell? (ad.add (k * 2)) = some kv ∧ w'.cell? ⟨(ad.add (k * 2)).block, (ad.add (k * 2)).off + 1, none⟩ = some vv ∧ Bytes w kv p.1 ∧ w.ownsRow base 5 1 vv p.2.length (bv p.2) := by
  have hxl := hx.1
  obtain ⟨kv, vv, e, h1, h2⟩ := hx.2 k (by omega)
  have hg : ∀ j, j < 2 → xs[k * 2 + j]? = (chunk xs 2 k)[j]? := fun j hj => by
    unfold chunk
    rw [List.getElem?_take, if_pos hj, List.getElem?_drop]
  have hr := Rd.own hb
  obtain ⟨ad, rfl, c0⟩ := hr (k * 2) kv (by have := hg 0 (by omega); rw [Nat.add_zero] at this; rw [this, e]; rfl)
  obtain ⟨ad', e1, c1⟩ := hr (k * 2 + 1) vv (by rw [hg 1 (by omega), e]; rfl)
  injection e1 with e1
  subst e1
  rw [add_beside _ _ (by omega)] at c1
  exact ⟨ad, _, kv, vv, rfl, List.getElem?_eq_getElem (by omega), c0, c1, h1.1, h2⟩
theorem Hole.bytesM {g n₀ : Nat} {W W' : World} {v : Value} {l : List UInt8} (H : Hole g n₀ W W') (hx : ∀ p : Addr, p.block = g → W.cell? p = none) (h : Bytes W v l) (hn : W.heap.size ≤ n₀) : Bytes W' v l := by
  obtain ⟨A, n, c', rfl, h1, h2, h3, h4⟩ := h
  refine ⟨_, _, _, rfl, h1, h2, h3, fun j u hj => ?_⟩
  obtain ⟨ad, e, hc⟩ := h4 j u hj
  refine ⟨ad, e, ?_⟩
  have hlt : (ad.add j).block < W.heap.size := World.block_lt_of_cell? W _ hc
  refine (World.cell?_of_block (H.block _ (Nat.lt_of_lt_of_le hlt hn) fun e2 => ?_)).trans hc
  rw [hx _ e2] at hc
  cases hc
theorem MapV.nocell {α : Type} {w : World} {b N : Nat} {T : PL (Value × α)} (h : MapV w b T N) (p : Addr) (hp : p.block = b) : w.cell? p = none := by
  obtain ⟨es, clock, hb, _⟩ := h
  unfold World.cell?
  rw [hp, hb]
/-- a world behind which a block that is not cells was written -/
theorem rest_read {d : Bool} {M : FSs} {there : Bool} {b : List UInt8} (h : Rest d M there b) (hd : d = false) : readM M cLog = b ∧ isB M cLog = there := by
  subst hd
  unfold readM isB
  rw [h.dead]
  rcases h.log.log with ⟨rfl, i, _, h2, h3⟩ | ⟨rfl, h2, rfl⟩
  · rw [h2]; simp [h3]
  · rw [h2]; simp
/-- what Open leaves -/
def OpenRes (j k p q : Nat) (M : FSs) (o : Own) (K L : Nat) (w0 w : World) (there : Bool) (b : List UInt8) (S : PLB) (n : Nat) (w' : World) : Prop :=
  ∃ clean o', KvAt j q p S clean false o' S.length w' ∧ FsIn k p M o' K L w0 w' ∧ Turn j o o' w w' ∧ w.heap.size ≤ q ∧ (clean = true → there = true ∧ LogAll b S n)
set_option maxRecDepth 100000 in
set_option maxHeartbeats 1000000 in
theorem Open_nil (w : World) : Calls Try.prog 11 #[.pointer none] w fun e w' => e = .returned (.tuple #[.pointer none, .int .i64 8]) ∧ w = w' := by
  go_enter Try.func11, Try.ntmps11
  go_wp2
  go_ret2
  exact ⟨rfl, rfl⟩
set_option maxRecDepth 100000 in
set_option maxHeartbeats 1000000 in
theorem Open_dead {k p : Nat} {M : FSs} {o : Own} {K L : Nat} {w0 w : World} (hf : FsIn k p M o K L w0 w) (hd : M.dead = true) : Calls Try.prog 11 #[.pointer (some ⟨p, 0, none⟩)] w fun e w' => e = .returned (.tuple #[.pointer none, .int .i64 8]) ∧ w = w' := by
  have CD := Lib.hid (Dead_in hf)
  rw [hd] at CD
  go_enter Try.func11, Try.ntmps11
  go_wp2_with (first
    | (go_at_call 25; (with_reducible refine CD.out.mono ?_); rintro e w1 ⟨rfl, rfl⟩)
    | fail)
  go_ret2
  exact ⟨rfl, rfl⟩
set_option maxRecDepth 100000 in
set_option maxHeartbeats 8000000 in
theorem Open_any {j k p : Nat} {M : FSs} {o : Own} {K L n : Nat} {w0 w : World} {there : Bool} {b : List UInt8} {S : PLB} (hf : FsIn k p M o K L w0 w) (hR : Rest false M there b) (hL : LogOk b S n) (hS : FitS S) (hb : b.length ≤ 1390000) (hn : n ≤ 200) (hLL : L ≤ 140737488355328) (hj : k ≠ j) :
    Calls Try.prog 11 #[.pointer (some ⟨p, 0, none⟩)] w fun e w' => ∃ q, e = .returned (.tuple #[.pointer (some ⟨q, 0, none⟩), .int .i64 0]) ∧ OpenRes j k p q M o K L w0 w there b S n w' := by
  obtain ⟨LL, e1, e2, e3, e4, e5, e6⟩ := hL.read
  obtain ⟨hr1, hr2⟩ := rest_read hR rfl
  have hdead := hR.dead
  have CD := Lib.hid (Dead_in hf)
  rw [hdead] at CD
  have CR := Lib.hid (fun w' (hb : Below w.heap.size w w') => Read_in (hf.ext hb) cLog (by decide) hLL)
  simp only [hr1, hr2] at CR
  have CRD := Lib.hid (fun v w' (h : Bytes w' v b) => Read_kv v b w' h hb)
  simp only [e1] at CRD
  have CL := Lib.hid (fun v w' (h : SliceOf 1 (rSlice 3 rOp) w' v (LL.map normL)) => Live_kv v (LL.map normL) w' h (by rw [List.length_map]; omega) (fun l hl => by
    obtain ⟨x, hx, rfl⟩ := List.mem_map.1 hl
    have h1 := (e2 x hx).1
    unfold normL
    rw [List.length_map]
    exact h1) (by rw [e4]; have := hS.len; omega) (fun l hl o ho => by
    obtain ⟨x, hx, rfl⟩ := List.mem_map.1 hl
    unfold normL at ho
    obtain ⟨y, hy, rfl⟩ := List.mem_map.1 ho
    have h1 := (e2 x hx).2 y hy
    have h2 := h1.value
    rw [h1.norm]
    show (if y.del then [] else y.value).length ≤ _
    split
    · exact Nat.zero_le _
    · omega))
  simp only [e4] at CL
  have hmm := @run_makeMap Try.prog
  have hKT := kvTy
  have hPT := pairTyG
  have zP := zPairG
  have hSl := hS.len
  have HS := Lib.hid hS
  have HF := Lib.hid hf
  have HE6 := Lib.hid e6
  have hE5 : (allBB LL).length ≤ b.length := e5
  have HJ := Lib.hid hj
  clear hL hR hr1 hr2 hdead e1 e2 e3 e4 e5 e6 hf hS hj
  go_enter Try.func11, Try.ntmps11
  go_wp2_with (first
    | (go_at_call 25; (with_reducible refine CD.out.mono ?_); rintro e w1 ⟨rfl, rfl⟩)
    | (refine wpList_box_agg rfl 71 (.tmp 19) rfl (cells := #[.pointer (some ⟨p, 0, none⟩), .map (some w.heap.size), .bool false, .bool false]) rfl ?_; intro w2 hx2 hb2 hl2; have hB2 := below_step ((Below.refl w.heap.size w).alloc (Nat.le_refl _) (.map #[] 0)) hb2)
    | (go_at_call 29; (refine (CR.out _ hB2).mono ?_); rintro e w3 ⟨v3, rfl, ho3, hb3, hf3⟩; obtain ⟨A3, c3, rfl⟩ := own_sl ho3)
    | (go_at_call 30; (refine (CRD.out _ _ (Bytes.own ho3)).mono ?_); rintro e w4 ⟨v4, rfl, hs4, hb4⟩)
    | (go_at_call 31; (refine (CL.out _ _ hs4).mono ?_); rintro e w5 ⟨v5, rfl, ⟨xs, hr5, hx5⟩, hb5⟩; obtain ⟨A5, c5, rfl⟩ := row_slC hr5)
    | fail)
  have hM0 := MapV.made (α := List UInt8) w
  obtain ⟨bm, hbm⟩ : ∃ x, x = w.heap.size := ⟨_, rfl⟩
  obtain ⟨q, hq⟩ : ∃ x, x = w.heap.size + 1 := ⟨_, rfl⟩
  have hx2' : Blk w2 q 71 #[.pointer (some ⟨p, 0, none⟩), .map (some bm), .bool false, .bool false] := by rw [hq, hbm]; simpa using hx2
  have hM5 : MapV w5 bm ([] : PL (Value × List UInt8)) 0 := by
    rw [hbm]
    exact (((hM0.ext hb2).ext hb3).ext hb4).ext hb5
  have hB25 := below_step (below_step hb3 hb4) hb5
  have hB5 := below_step hB2 hB25
  have hxq := hx2'.ext hB25
  have hsz2 : q < w2.heap.size := hx2'.lt
  have hsz4 : w2.heap.size ≤ w4.heap.size := Nat.le_trans hb3.size hb4.size
  have hsz5 := hb5.size
  have hF5 := (hf3.ext hb4).ext hb5
  have HPA := Lib.hid (fun (w' : World) (hb : Hole bm w5.heap.size w5 w') k (hk : k < S.length) => pairO_row hx5 rfl (hb.own hr5 (by omega) (Nat.le_refl _)) hk)
  have HNC := Lib.hid (fun p hp => hM5.nocell p hp)
  have HBM := Lib.hid hbm
  have HQ := Lib.hid hq
  rw [← hq, ← hbm]
  clear hq hbm hM0 hx2 hx2' hb2 hb3 hb4 hb5 hB2 hr5 hx5 hs4 ho3 hf3 hl2
  go_loopw [34] (fun iv wr => ∃ (k : Nat) (T : PL (Value × List UInt8)), k ≤ S.length ∧ iv = .int .i64 k ∧ MapV wr bm T k ∧ mapP (·.2) T = doneP [] (opsOf (S.take k)) ∧ (∀ e ∈ T, w5.ownsRow w4.heap.size 5 1 e.2.1 e.2.2.length (bv e.2.2)) ∧ Hole bm w5.heap.size w5 wr ∧ Below w.heap.size w wr) (fun iv _ => S.length - (RowKit.intOf iv).toNat)
  case atStart => exact ⟨0, [], Nat.zero_le _, rfl, hM5, rfl, (fun e he => absurd he List.not_mem_nil), Hole.refl _ _ _, hB5⟩
  case round =>
    clear hM5 hB5
    obtain ⟨k, T, hk, rfl, hM, hT, hV, hH, hBr⟩ := hrel
    have hxr := hH.blk hxq (by omega) (by have := HBM.out; have := HQ.out; omega)
    by_cases hlt : k < S.length
    · obtain ⟨ad, pr, kv, vv, rfl, hSp, c0, c1, hkb, hvo⟩ := HPA.out wr hH k hlt
      have f2 : decide ((k : Int) < S.length) = true := decide_eq_true (by omega)
      have b3 : (0 : Int) ≤ k := by omega
      have b4 : (k : Int) < S.length := by omega
      have hkb2 := hH.bytesM HNC.out hkb (Nat.le_refl _)
      obtain ⟨AK, nk, cK, rfl, _⟩ := id hkb
      obtain ⟨AV, cV, rfl⟩ := own_sl hvo
      have HKM := Lib.hid (Bytes_max hkb)
      have hSt : S.take (k + 1) = S.take k ++ [pr] := by
        obtain ⟨h2, h3⟩ := List.getElem?_eq_some_iff.1 hSp
        rw [List.take_succ_eq_append_getElem h2, h3]
      have HST := Lib.hid hSt
      have HVO := Lib.hid hvo
      have HV := Lib.hid hV
      have HT := Lib.hid hT
      clear hkb hvo hSp hSt hV hT
      go_upto_region 9 with (first
        | ((with_reducible refine gd_alloc ?_); refine wpList_alloc_blk rfl 51 rfl zP ?_; intro w9 hx9 hb9 hl9)
        | ((with_reducible refine gd_store ?_); refine wpList_store_all rfl 51 (.tmp 10) (.tmp 37) rfl #[.slice AK nk cK, .slice AV pr.2.length cV] hx9 hPT rfl rfl rfl rfl ?_; intro w10 hx10 hg10; have y0 := hx10.cellv (i := 0) rfl; have y1 := hx10.cellv (i := 1) rfl)
        | fail)
      have hb10 := below_blk hb9 hb9.size hg10 (Nat.le_refl _)
      have hB10 := below_step hBr hb10
      have hM10 := hM.ext hb10
      have z1 := (hxr.ext hb10).cellv (i := 1) rfl
      have yq := run_str (P := Try.prog) (src := 22) (dst := 9) (show Bytes w10.drew _ _ from Bytes_drewN (hkb2.ext hb10) 1) Try.underlying22 Try.underlying5 Try.underlying9
      clear hx9 hb9 hg10 hl9
      go_still_tail 9, (by kernel_rfl)
      refine wpList_put_map rfl (.tmp 41) (.tmp 44) (.tmp 46) _ _ rfl mapTy rfl (hM10.ext (below_drewN (Below.refl _ _) 1)) (by unfold maxLen; omega) HKM.out rfl rfl pr.2 ?_
      intro w11 hM11 hg11
      have hg10 : w10.grownBy w11 (some bm) := ⟨hg11.os, hg11.tape, hg11.output, hg11.size, hg11.block⟩
      have hH11 := (hH.trans (Hole.below hb10 hH.size)).trans (Hole.grown hg10 (fun r e => .inl (by injection e with e; exact e.symm)) (Nat.le_trans hH.size hb10.size))
      have hB11 := below_blk hB10 hB10.size hg10 (Nat.le_of_eq HBM.out.symm)
      have hT11 : mapP (·.2) (setP T pr.1 (some (Value.slice AV pr.2.length cV, pr.2))) = doneP [] (opsOf (S.take (k + 1))) := by
        rw [mapP_set, HT.out, HST.out]
        unfold opsOf
        rw [List.map_append, doneP_append]
        rfl
      have hV11 : ∀ e ∈ setP T pr.1 (some (Value.slice AV pr.2.length cV, pr.2)), w5.ownsRow w4.heap.size 5 1 e.2.1 e.2.2.length (bv e.2.2) := fun e he => by
        rcases mem_setP he with h' | ⟨x, e1, e2⟩
        · exact HV.out e h'
        · injection e1 with e1
          subst e1
          rw [e2]
          exact HVO.out
      go_wp2
      go_roundw
      case rel => exact ⟨k + 1, _, by omega, by go_num, hM11, hT11, hV11, hH11, hB11⟩
      case measure => simp [RowKit.intOf]; omega
    · obtain rfl : k = S.length := by omega
      have f2 : decide ((S.length : Int) < S.length) = false := decide_eq_false (by omega)
      have HFIN : ∀ (w6 : World) (clean : Bool), Blk w6 q 71 #[.pointer (some ⟨p, 0, none⟩), .map (some bm), .bool clean, .bool false] → wr.grownBy w6 (some q) → (clean = true → there = true ∧ (allBB LL).length = b.length) → OpenRes j k p q M o K L w0 w there b S n w6 := by
        intro w6 clean hx6 hg6 hcl
        have ho := HF.out.own
        have hqw := HQ.out
        have hbw := HBM.out
        have hB6 := below_blk hBr hBr.size hg6 (by omega)
        have hT6 : Turn j o (give o q (j, .fs)) w w6 := (Turn.below ho hB6).give (by omega) _
        have ho6 : OwnIn (give o q (j, .fs)) w6 := (ho.more hB6.size).give hx6.lt _
        have ho2 : OwnIn (give o q (j, .fs)) w2 := (ho.more (by omega)).give (by omega) _
        refine ⟨clean, give o q (j, .fs), ⟨⟨bm, hx6, ⟨T, hM.kept hg6 (by intro e; injection e with e; omega), ?_, fun e he => ?_⟩, ?_⟩, give_same _ _ _, HS.out⟩, HF.out.turn ho6 hT6 HJ.out, hT6, by omega, fun h => ⟨(hcl h).1, HE6.out (hcl h).2⟩⟩
        · rw [hT, List.take_length]
          exact done_ops S [] HS.out.rises
        · exact Lone.own ho2 hsz4 (own_kept (hH.own (hV e he) (by omega) (Nat.le_refl _)) hg6 (by omega))
        · rw [give_ne (by omega)]
          exact ho _ (by omega)
      have HFI := Lib.hid HFIN
      clear HFIN hV hT
      have arm : True := trivial
      cases there
      · go_wp2_with (first
          | ((with_reducible refine gd_store ?_); refine wpList_store_cell rfl 4 (.tmp 57) (.tmp 55) rfl (i := 2) (v := .bool false) hxr (show 2 < 4 by decide) (by kernel_rfl) rfl rfl rfl ?_; intro w6 hx6 hg6)
          | fail)
        go_ret2
        exact ⟨_, rfl, HFI.out _ _ hx6 hg6 (fun h => by cases h)⟩
      · by_cases heq : (allBB LL).length = b.length
        · have HEQ := Lib.hid heq
          rw [heq]
          clear heq
          go_wp2_with (first
            | ((with_reducible refine gd_store ?_); refine wpList_store_cell rfl 4 (.tmp 57) (.tmp 55) rfl (i := 2) (v := .bool true) hxr (show 2 < 4 by decide) (by kernel_rfl) rfl rfl rfl ?_; intro w6 hx6 hg6)
            | fail)
          go_ret2
          exact ⟨_, rfl, HFI.out _ _ hx6 hg6 (fun _ => ⟨by trivial, HEQ.out⟩)⟩
        · have d1 : decide (((allBB LL).length : Int) = (b.length : Int)) = false := decide_eq_false (by omega)
          have d2 : ((((allBB LL).length : Int)) == (b.length : Int)) = false := beq_eq_false_iff_ne.2 (by omega)
          go_wp2_with (first
            | ((with_reducible refine gd_store ?_); refine wpList_store_cell rfl 4 (.tmp 57) (.tmp 55) rfl (i := 2) (v := .bool false) hxr (show 2 < 4 by decide) (by kernel_rfl) rfl rfl rfl ?_; intro w6 hx6 hg6)
            | fail)
          go_ret2
          exact ⟨_, rfl, HFI.out _ _ hx6 hg6 (fun h => by cases h)⟩
end Go.Mun
