/- replay.Live of many changes. -/
import Derived.Test.YthjnebngdcdicaaKvFn
import Derived.Deep.Cut
namespace Go.Mun
open Go Go.RowKit Go.Proofs

set_option maxRecDepth 100000 in
set_option maxHeartbeats 8000000 in
theorem Live_kv (v : Value) (LL : List (List Rec)) (w : World) (h : SliceOf 1 (rSlice 3 rOp) w v LL) (hn1 : LL.length ≤ 200) (hn2 : ∀ l ∈ LL, l.length ≤ 2000) (hS : (liveP LL).length ≤ 100000) (hn3 : ∀ l ∈ LL, ∀ o ∈ l, o.value.length ≤ 1000000) :
    Calls Try.prog 31 #[v] w fun e w' => ∃ v', e = .returned v' ∧ PairsO w.heap.size w' v' (liveP LL) ∧ Below w.heap.size w w' := by
  obtain ⟨A, n, c, xs, rfl, g1, g2, g3, g4, g5, g6⟩ := h
  unfold maxLen at g4
  have hmm := @run_makeMap Try.prog
  have zO := zOp
  have hTO := opTy
  have hTP := pairsTy
  have HN2 := Lib.hid hn2
  have HN3 := Lib.hid hn3
  have HLA := Lib.hid (fun (j : Nat) (hj : j < n) (w' : World) (hb : Below w.heap.size w w') => out_at (g5.ext hb) g1 g2 g6 hj)
  have HLL := Lib.hid g1
  have hR0 := Lib.hid (liveP_rises LL)
  have HRS := Lib.hid (fun j => liveP_rises (LL.take j))
  have hnn : n ≤ 200 := by omega
  have HTK := Lib.hid (show LL.take n = LL by rw [← g1]; exact List.take_length)
  clear hn2 hn3 g1 g2 g5 g6 hn1
  go_enter Try.func31, Try.ntmps31
  go_wp2
  have hB0 := (Below.refl w.heap.size w).alloc (Nat.le_refl _) (.map #[] 0)
  have hM0 := MapV.made (α := List UInt8) w
  generalize w.alloc (.map #[] 0) = w1 at hB0 hM0 ⊢
  go_loopw [14] (fun iv wr => ∃ (j : Nat) (T : PL (Value × List UInt8)) (N : Nat), j ≤ n ∧ iv = .int .i64 j ∧ MapV wr w.heap.size T N ∧ TOk w T (liveP (LL.take j)) ∧ N ≤ 2000 * j ∧ Below w.heap.size w wr) (fun iv _ => n - (RowKit.intOf iv).toNat)
  case atStart => exact ⟨0, [], 0, Nat.zero_le _, rfl, hM0, TOk.nil w, Nat.zero_le _, hB0⟩
  case round =>
    clear hM0 hB0
    obtain ⟨j, T, N, hj, rfl, hM, hT, hN, hBr⟩ := hrel
    by_cases hlt : j < n
    · obtain ⟨ad1, v1, l, rfl, p0, hlj, hsl⟩ := HLA.out j hlt wr hBr
      obtain ⟨A2, m, c2, ys, rfl, k1, k2, k3, k4, k5, k6⟩ := hsl
      unfold maxLen at k4
      have hm : m ≤ 2000 := by
        rw [← k1]
        exact HN2.out l (List.mem_of_getElem? hlj)
      have HV2 := Lib.hid (HN3.out l (List.mem_of_getElem? hlj))
      have HOP := Lib.hid (fun (i : Nat) (hi : i < m) (w' : World) (hb : Below w.heap.size w w') => op_at' (k5.ext hb) k1 k2 k6 hi)
      have HS1 := Lib.hid (show liveP (LL.take (j + 1)) = doneP (liveP (LL.take j)) l from liveP_snoc hlj)
      have HL1 := Lib.hid (show l.take m = l by rw [← k1]; exact List.take_length)
      have HT0 := Lib.hid (show TOk w T (doneP (liveP (LL.take j)) (l.take 0)) from hT)
      have f1 : decide ((j : Int) < n) = true := decide_eq_true (by omega)
      have b1 : (0 : Int) ≤ j := by omega
      have b2 : (j : Int) < n := by omega
      clear k1 k2 k5 k6 hlj hT
      go_wp2
      go_loopw [20] (fun iv wr => ∃ (i : Nat) (T : PL (Value × List UInt8)) (N : Nat), i ≤ m ∧ iv = .int .i64 i ∧ MapV wr w.heap.size T N ∧ TOk w T (doneP (liveP (LL.take j)) (l.take i)) ∧ N ≤ 2000 * j + i ∧ Below w.heap.size w wr) (fun iv _ => m - (RowKit.intOf iv).toNat)
      case atStart => exact ⟨0, T, N, Nat.zero_le _, rfl, hM, HT0.out, by omega, hBr⟩
      case round =>
        clear hM hBr
        obtain ⟨i, T, N, hi, rfl, hM, hT, hN, hBr⟩ := hrel
        by_cases hlt : i < m
        · obtain ⟨ad2, o, kv, vv, rfl, r0, r1, r2, hoi, hkb, hvb⟩ := HOP.out i hlt _ hBr
          have f2 : decide ((i : Int) < m) = true := decide_eq_true (by omega)
          have b3 : (0 : Int) ≤ i := by omega
          have b4 : (i : Int) < m := by omega
          have HKL := Lib.hid (Bytes_max hkb)
          have HVL := Lib.hid (HV2.out o (List.mem_of_getElem? hoi))
          have HOB := Lib.hid (And.intro hkb hvb)
          obtain ⟨AK, nk, cK, hkv, _⟩ := id hkb
          subst hkv
          obtain ⟨AV, nv, cV, hvv, _⟩ := id hvb
          subst hvv
          clear hkb hvb
          cases hdel : o.del
          all_goals rw [hdel] at r0
          all_goals go_upto_region 8 with (first
            | ((with_reducible refine gd_alloc ?_); refine wpList_alloc_blk rfl 32 rfl zO ?_; intro w9 hx9 hb9 hl9; have hM9 := hM.ext hb9)
            | ((with_reducible refine gd_store ?_); refine wpList_store_all rfl 32 (.tmp 7) (.tmp 23) rfl #[.bool o.del, .slice AK nk cK, .slice AV nv cV] hx9 hTO rfl rfl rfl (by rw [hdel]; rfl) ?_; intro w10 hx10 hg10)
            | fail)
          all_goals
            have hb10 := below_blk hb9 hb9.size hg10 (Nat.le_refl _)
            have hB10 := below_step hBr hb10
            have hM10 := hM.ext hb10
            have hkb10 := HOB.out.1.ext hB10
            clear hx9 hb9 hg10 hM hM9
          · -- put
            have hd9 : o.del = false := hdel
            have y0 := hx10.cellv (i := 0) rfl
            have y1 := hx10.cellv (i := 1) rfl
            have y2 := hx10.cellv (i := 2) rfl
            rw [hd9] at y0
            have q := run_str (P := Try.prog) (src := 22) (dst := 9) hkb10 Try.underlying22 Try.underlying5 Try.underlying9
            go_wp2_with (first
              | (at_mapUpdate; refine wpList_put_map rfl (.tmp 30) (.tmp 33) (.tmp 35) _ _ rfl mapTy rfl hM10 (by unfold maxLen; omega) HKL.out rfl rfl o.value ?_; intro w11 hM11 hg11)
              | fail)
            have hB11 := below_blk hB10 (Nat.le_trans (Nat.le_refl _) hB10.size) hg11 (Nat.le_refl _)
            go_roundw
            case rel => exact ⟨i + 1, _, N + 1, by omega, by go_num, hM11, by rw [doneP_snoc _ hoi]; exact hT.put hd9 HOB.out.2 HKL.out HVL.out, by omega, hB11⟩
            case measure => simp [RowKit.intOf]; omega
          · -- delete
            have hd9 : o.del = true := hdel
            have y0 := hx10.cellv (i := 0) rfl
            have y1 := hx10.cellv (i := 1) rfl
            have y2 := hx10.cellv (i := 2) rfl
            rw [hd9] at y0
            have q := run_str (P := Try.prog) (src := 22) (dst := 9) hkb10 Try.underlying22 Try.underlying5 Try.underlying9
            go_wp2_with (first
              | (at_delete; refine wpList_del_map rfl (.tmp 26) (.tmp 29) _ _ rfl mapTy rfl hM10 HKL.out rfl ?_; intro w11 hM11 hg11)
              | fail)
            have hB11 := below_blk hB10 (Nat.le_trans (Nat.le_refl _) hB10.size) hg11 (Nat.le_refl _)
            go_roundw
            case rel => exact ⟨i + 1, _, N, by omega, by go_num, hM11, by rw [doneP_snoc _ hoi]; exact hT.del hd9, by omega, hB11⟩
            case measure => simp [RowKit.intOf]; omega
        · obtain rfl : i = m := by omega
          have f2 : decide ((i : Int) < i) = false := decide_eq_false (by omega)
          rw [HL1.out, ← HS1.out] at hT
          go_wp2
          go_roundw
          case rel => exact ⟨j + 1, T, N, by omega, by go_num, hM, hT, by omega, hBr⟩
          case measure => simp [RowKit.intOf]; omega
    · obtain rfl : j = n := by omega
      have f1 : decide ((j : Int) < j) = false := decide_eq_false (by omega)
      rw [HTK.out] at hT
      have hTR := hT.rises hR0.out
      have hTN : T.length ≤ 100000 := by have h1 : T.length = (liveP LL).length := (by rw [← hT.1]; unfold mapP; rw [List.length_map]); omega
      go_wp2_with (first
        | (go_at_call 46; refine (rising_any _ _ _ T hM hTR hTN).mono ?_; rintro e w4 ⟨v4, rfl, ho4, hb4⟩; obtain ⟨A4, c4, rfl⟩ := own_sl ho4)
        | fail)
      have hM4 := hM.ext hb4
      have hB4 := below_step hBr hb4
      clear hM hBr hb4
      have hml4 := hM4.lt
      have HT := Lib.hid hT
      go_loopw [8, 41] (fun vo iv wr => ∃ (k : Nat) (co : List Value), k ≤ T.length ∧ iv = .int .i64 k ∧ wr.ownsRow w4.heap.size 51 2 vo k co ∧ Stays wr (Rows2 vo (.slice none 0 0)) (fun w' => RowC 2 (rPairO w4.heap.size) w' co ((liveP LL).take k)) ∧ Below w4.heap.size w4 wr) (fun _ iv _ => T.length - (RowKit.intOf iv).toNat)
      case atStart => exact ⟨0, [], Nat.zero_le _, rfl, World.ownsRow_nil _ _ _ _, fun w' _ _ => RowC.nil _ _ _, Below.refl _ _⟩
      case round =>
        obtain ⟨k, co, hk, rfl, hco, hso, hBr⟩ := hrel
        have HSO := Lib.hid hso
        clear hso
        by_cases hlt : k < T.length
        · obtain ⟨h4, rfl⟩ := own_at ho4 (by omega)
          obtain ⟨⟨key, u, val⟩, hp⟩ : ∃ p, T[k]? = some p := ⟨_, List.getElem?_eq_getElem hlt⟩
          have hmem := List.mem_of_getElem? hp
          have hget : getP T key = some (u, val) := getP_at hTR hmem
          obtain ⟨hub, hkl, hvl⟩ := HT.out.2 _ hmem
          simp only at hub hkl hvl
          have hSk : (liveP LL).take (k + 1) = (liveP LL).take k ++ [(key, val)] := by
            have h1 : (liveP LL)[k]? = some (key, val) := by rw [← HT.out.1]; unfold mapP; rw [List.getElem?_map, hp]; rfl
            obtain ⟨h2, h3⟩ := List.getElem?_eq_some_iff.1 h1
            rw [List.take_succ_eq_append_getElem h2, h3]
          have hok := own_ext ho4 hBr
          have hc1 := hok.cellAt k (by omega)
          rw [List.getElem?_map, hp] at hc1
          simp only [Option.map_some, strV] at hc1
          have HKL := Lib.hid hkl
          have HSK := Lib.hid hSk
          have HBY := Lib.hid (fun (w' : World) (hb : Below w4.heap.size w4 w') => hub.ext (hB4.trans (hb.mono hB4.size)))
          have HLK := Lib.hid (fun (w' : World) (hb : Below w4.heap.size w4 w') => (hM4.below hb hml4).look mapTy (zBytesV w') hkl hget)
          have hW := hBr.size
          have f2 : decide ((k : Int) < T.length) = true := decide_eq_true (by omega)
          have b3 : (0 : Int) ≤ k := by omega
          have b4 : (k : Int) < T.length := by omega
          clear hp hmem hget hub hkl hSk
          go_wp2_with (first
            | ((with_reducible refine gd_convert ?_); refine wpList_str_bytes rfl (.tmp 46) rfl rfl HKL.out ?_; intro c5 w5 hk5 hb5 hl5; have hB5 := below_step hBr hb5; have q5 := HLK.out _ hB5)
            | (go_at_call 35; refine (Clone_any _ val _ (HBY.out _ hB5) (by omega)).mono ?_; rintro e w6 ⟨v6, rfl, ho6, hb6⟩; obtain ⟨A6, c6, rfl⟩ := own_sl ho6; have hB6 := below_step hB5 hb6)
            | (refine wpList_row_one rfl (.tmp 52) rfl hTP (by decide) (cs := #[.slice (some ⟨wr.heap.size, 0, none⟩) key.length c5, .slice A6 val.length c6]) rfl rfl ?_; intro w7 hx7 hb7 hl7; have hbr := below_step (below_step hb5 hb6) hb7; have hB7 := below_step hBr hbr; have hco7 := own_ext hco hbr)
            | (at_builtin; refine wpList_append_rd _ rfl (.tmp 45) (.tmp 53) _ rfl w4.heap.size _ _ 2 48 hTP _ _ _ rfl hco7 (some ⟨w6.heap.size, 0, none⟩) 1 1 [.slice (some ⟨wr.heap.size, 0, none⟩) key.length c5, .slice A6 val.length c6] rfl rfl hx7.rd (by intro u hu; simp only [List.mem_cons, List.not_mem_nil, or_false] at hu; rcases hu with rfl | rfl <;> rfl) (by unfold maxLen; omega) (by omega) hB7.size ?_; intro vo8 w8 hco8 hg8 hat8)
            | fail)
          have hB8 := below_own hB7 hco7 (Nat.le_refl _) hg8 hB7.size
          have hnil := World.ownsRow_nil wr w4.heap.size 5 1
          have sl := stay_app (c := .slice none 0 0) hco hbr hg8 hat8 (bad := Rows2 _ (.slice none 0 0)) (bad1 := Rows2 vo8 (.slice none 0 0)) (fun _ h => h) (fun _ h => h) HSO.out
          have ho60 : w7.ownsRow wr.heap.size 5 1 (.slice A6 val.length c6) val.length (bv val) := own_ext (own_base ho6 hb5.size) hb7
          have sv := stay_new hco hnil hbr hg8 hat8 (bad1 := Rows2 vo8 (.slice none 0 0)) (fun _ h => h) ho60
          have hlo : ∀ x, Value.ownBlock _ = some x → x < wr.heap.size := fun x hx => (hco.lt x hx).2
          have hk8 := ((hk5.ext hb6).ext hb7).grownB hg8 (fun ad e => by injection e with e; subst e; intro e'; have := hlo _ e'.symm; simp only at this; omega)
          have sk := Stays.bytes (bad := Rows2 vo8 (.slice none 0 0)) hk8 (fun ad e hb => by
            injection e with e
            subst e
            rcases hb with hb | hb
            · rcases hat8 with e1 | e1
              · have := hlo _ (e1 ▸ hb)
                simp only at this
                omega
              · rw [e1] at hb
                injection hb with hb
                have := hb5.size
                have := hb6.size
                simp only at hb
                omega
            · cases hb)
          have sl2 := ((sl.and sk).and sv).imp (Q := fun w' => RowC 2 (rPairO w4.heap.size) w' (co ++ [.slice (some ⟨wr.heap.size, 0, none⟩) key.length c5, .slice A6 val.length c6]) ((liveP LL).take (k + 1))) fun w' h => by
            rw [HSK.out]
            exact h.1.1.more rfl ⟨_, _, rfl, ⟨h.1.2, fun ad n c e => by injection e with e; injection e with e; subst e; exact hBr.size⟩, own_base h.2 hBr.size⟩
          go_roundw
          case rel => exact ⟨k + 1, _, by omega, by go_num, by simpa using hco8, sl2, hB8⟩
          case measure => simp [RowKit.intOf]; omega
        · obtain rfl : k = T.length := by omega
          have f2 : decide ((T.length : Int) < T.length) = false := decide_eq_false (by omega)
          have hSl : (liveP LL).take T.length = liveP LL := by rw [← HT.out.1]; unfold mapP; rw [show T.length = (T.map fun p => (p.1, p.2.2)).length from by rw [List.length_map], List.take_length]
          have hfin := HSO.out.now
          rw [hSl] at hfin
          go_wp2
          go_ret
          have hTl : T.length = (liveP LL).length := by rw [← HT.out.1]; unfold mapP; rw [List.length_map]
          refine ⟨_, rfl, ⟨co, ?_, hfin.1, fun i hi => ?_⟩, hB4.trans (hBr.mono hB4.size)⟩
          · rw [← hTl]; exact own_base hco hB4.size
          · obtain ⟨kv, vv, e, g1, g2⟩ := hfin.2 i hi
            exact ⟨kv, vv, e, ⟨g1.1, fun ad n c e => Nat.le_trans hB4.size (g1.2 ad n c e)⟩, own_base g2 hB4.size⟩
end Go.Mun
