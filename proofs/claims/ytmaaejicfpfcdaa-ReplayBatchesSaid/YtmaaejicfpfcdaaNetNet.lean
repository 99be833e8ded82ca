/- The walk of replay.Net: the last change of each key. -/
import Derived.Test.YtmaaejicfpfcdaaPairRow
import Derived.Test.YtmaaejicfpfcdaaRecRead
import Derived.Test.YtmaaejicfpfcdaaRpSame
import Derived.Deep.Cut
namespace Go.Mun
open Go Go.RowKit Go.Proofs

/-- the elements of a map of changes -/
def TOp (w : World) (T : PL (Value × Rec)) (S : PL Rec) : Prop := mapP (·.2) T = S ∧ ∀ p ∈ T, ∃ kv vv, p.2.1 = .agg #[.bool p.2.2.del, kv, vv] ∧ Bytes w kv p.2.2.key ∧ Bytes w vv p.2.2.value ∧ p.2.2.key = p.1 ∧ p.1.length ≤ maxLen ∧ p.2.2.value.length ≤ 1000000 ∧ vv.oneCell' = true
theorem TOp.nil (w : World) : TOp w [] [] := ⟨rfl, fun p h => by cases h⟩
theorem TOp.put {w : World} {T : PL (Value × Rec)} {S : PL Rec} (h : TOp w T S) {o : Rec} {kv vv : Value} (hk : Bytes w kv o.key) (hu : Bytes w vv o.value) (hkl : o.key.length ≤ maxLen) (hv : o.value.length ≤ 1000000) : TOp w (setP T o.key (some (.agg #[.bool o.del, kv, vv], o))) (setP S o.key (some o)) := by
  refine ⟨by rw [mapP_set, h.1]; rfl, fun p hp => ?_⟩
  rcases mem_setP hp with h' | ⟨v, e, rfl⟩
  · exact h.2 p h'
  · injection e with e
    subst e
    refine ⟨kv, vv, rfl, hk, hu, rfl, hkl, hv, ?_⟩
    obtain ⟨_, _, _, e, _⟩ := hu
    rw [e]
    rfl
theorem netP_snoc {l : List Rec} {k : Nat} {o : Rec} (h : l[k]? = some o) : netP (l.take (k + 1)) = setP (netP (l.take k)) o.key (some o) := by
  obtain ⟨hk, hx⟩ := List.getElem?_eq_some_iff.1 h
  rw [List.take_succ_eq_append_getElem hk, hx]
  unfold netP
  rw [List.foldl_append]
  rfl
theorem TOp.rises {w : World} {T : PL (Value × Rec)} {S : PL Rec} (h : TOp w T S) (hS : Rises S) : Rises T := rises_of_map (by rw [h.1]; exact hS)

set_option maxRecDepth 100000 in
set_option maxHeartbeats 8000000 in
theorem Net_any (v : Value) (l : List Rec) (w : World) (h : SliceOf 3 rOp w v l) (hn1 : l.length ≤ 100) (hn3 : ∀ o ∈ l, o.value.length ≤ 1000000) :
    Calls Try.prog 33 #[v] w fun e w' => ∃ v', e = .returned v' ∧ SliceOf 3 rOp w' v' (netL l) ∧ Below w.heap.size w w' := by
  obtain ⟨A, n, c, xs, rfl, g1, g2, g3, g4, g5, g6⟩ := h
  unfold maxLen at g4
  have hmm := @run_makeMap Try.prog
  have zO := zOp
  have hTO := opTy
  have hTU := opsTy
  have HV2 := Lib.hid hn3
  have HOP := Lib.hid (fun (i : Nat) (hi : i < n) (w' : World) (hb : Below w.heap.size w w') => op_at' (g5.ext hb) g1 g2 g6 hi)
  have hR0 := Lib.hid (netP_rises l)
  have hnn : n ≤ 100 := by omega
  have HTK := Lib.hid (show l.take n = l by rw [← g1]; exact List.take_length)
  clear hn3 g1 g2 g5 g6 hn1
  go_enter Try.func33, Try.ntmps33
  go_wp2
  have hB0 := (Below.refl w.heap.size w).alloc (Nat.le_refl _) (.map #[] 0)
  have hM0 := MapV.made (α := Rec) w
  generalize w.alloc (.map #[] 0) = w1 at hB0 hM0 ⊢
  go_loopw [13] (fun iv wr => ∃ (j : Nat) (T : PL (Value × Rec)), j ≤ n ∧ iv = .int .i64 j ∧ MapV wr w.heap.size T j ∧ TOp w T (netP (l.take j)) ∧ Below w.heap.size w wr) (fun iv _ => n - (RowKit.intOf iv).toNat)
  case atStart => exact ⟨0, [], Nat.zero_le _, rfl, hM0, TOp.nil w, hB0⟩
  case round =>
    clear hM0 hB0
    obtain ⟨j, T, hj, rfl, hM, hT, hBr⟩ := hrel
    by_cases hlt : j < n
    · obtain ⟨ad2, o, kv, vv, rfl, r0, r1, r2, hoi, hkb, hvb⟩ := HOP.out j hlt _ hBr
      have f2 : decide ((j : Int) < n) = true := decide_eq_true (by omega)
      have b3 : (0 : Int) ≤ j := by omega
      have b4 : (j : Int) < n := by omega
      have HKL := Lib.hid (Bytes_max hkb)
      have HVL := Lib.hid (HV2.out o (List.mem_of_getElem? hoi))
      have HOB := Lib.hid (And.intro hkb hvb)
      have HT := Lib.hid (show ∀ kv vv, Bytes w kv o.key → Bytes w vv o.value → TOp w (setP T o.key (some (.agg #[.bool o.del, kv, vv], o))) (netP (l.take (j + 1))) from fun kv vv h1 h2 => by rw [netP_snoc hoi]; exact hT.put h1 h2 HKL.out HVL.out)
      obtain ⟨AK, nk, cK, hkv, _⟩ := id hkb
      subst hkv
      obtain ⟨AV, nv, cV, hvv, _⟩ := id hvb
      subst hvv
      clear hkb hvb hT hoi
      go_upto_region 5 with (first
        | ((with_reducible refine gd_alloc ?_); refine wpList_alloc_blk rfl 34 rfl zO ?_; intro w9 hx9 hb9 hl9; have hM9 := hM.ext hb9)
        | ((with_reducible refine gd_store ?_); refine wpList_store_all rfl 34 (.tmp 5) (.tmp 16) rfl #[.bool o.del, .slice AK nk cK, .slice AV nv cV] hx9 hTO rfl rfl rfl rfl ?_; intro w10 hx10 hg10)
        | fail)
      have hb10 := below_blk hb9 hb9.size hg10 (Nat.le_refl _)
      have hB10 := below_step hBr hb10
      have hM10 := hM.ext hb10
      have hkb10 := HOB.out.1.ext hB10
      have y1 := hx10.cellv (i := 1) rfl
      have q := run_str (P := Try.prog) (src := 24) (dst := 9) hkb10 Try.underlying24 Try.underlying5 Try.underlying9
      clear hx9 hb9 hg10 hM hM9
      go_wp2_with (first
        | ((with_reducible refine gd_load ?_); refine wpList_load_blk rfl 34 (.tmp 5) rfl hx10 hTO rfl ?_)
        | (at_mapUpdate; refine wpList_put_map rfl (.tmp 17) (.tmp 20) (.tmp 21) _ _ rfl mapOpTy rfl hM10 (by unfold maxLen; omega) HKL.out rfl rfl o ?_; intro w11 hM11 hg11)
        | fail)
      have hB11 := below_blk hB10 (Nat.le_trans (Nat.le_refl _) hB10.size) hg11 (Nat.le_refl _)
      go_roundw
      case rel => exact ⟨j + 1, _, by omega, by go_num, hM11, HT.out _ _ HOB.out.1 HOB.out.2, hB11⟩
      case measure => simp [RowKit.intOf]; omega
    · obtain rfl : j = n := by omega
      have f1 : decide ((j : Int) < j) = false := decide_eq_false (by omega)
      rw [HTK.out] at hT
      have hTR := hT.rises hR0.out
      have hTN : T.length ≤ 100000 := by have := hM.len; omega
      go_wp2_with (first
        | (go_at_call 49; refine (rising_op _ _ _ T hM hTR hTN).mono ?_; rintro e w4 ⟨v4, rfl, ho4, hb4⟩; obtain ⟨A4, c4, rfl⟩ := own_sl ho4)
        | fail)
      have hM4 := hM.ext hb4
      have hB4 := below_step hBr hb4
      clear hM hBr hb4
      have hml4 := hM4.lt
      have HT := Lib.hid hT
      go_loopw [6, 26] (fun vo iv wr => ∃ (k : Nat) (co : List Value), k ≤ T.length ∧ iv = .int .i64 k ∧ wr.ownsRow w4.heap.size 34 3 vo k co ∧ Stays wr (Rows2 vo (.slice none 0 0)) (fun w' => RowC 3 rOp w' co ((netL l).take k)) ∧ Below w4.heap.size w4 wr) (fun _ iv _ => T.length - (RowKit.intOf iv).toNat)
      case atStart => exact ⟨0, [], Nat.zero_le _, rfl, World.ownsRow_nil _ _ _ _, fun w' _ _ => RowC.nil _ _ _, Below.refl _ _⟩
      case round =>
        obtain ⟨k, co, hk, rfl, hco, hso, hBr⟩ := hrel
        have HSO := Lib.hid hso
        clear hso
        by_cases hlt : k < T.length
        · obtain ⟨h4, rfl⟩ := own_at ho4 (by omega)
          obtain ⟨⟨key, u, r⟩, hp⟩ : ∃ p, T[k]? = some p := ⟨_, List.getElem?_eq_getElem hlt⟩
          have hmem := List.mem_of_getElem? hp
          have hget : getP T key = some (u, r) := getP_at hTR hmem
          obtain ⟨kv, vv, hu, _, hub, hkk, hkl, hvl, hone⟩ := HT.out.2 _ hmem
          simp only at hu hub hkk hkl hvl
          have hSk : (netL l).take (k + 1) = (netL l).take k ++ [r.bare] := by
            have h1 : (netL l)[k]? = some r.bare := by
              unfold netL
              rw [← HT.out.1]
              unfold mapP
              rw [List.getElem?_map, List.getElem?_map, hp]
              rfl
            obtain ⟨h2, h3⟩ := List.getElem?_eq_some_iff.1 h1
            rw [List.take_succ_eq_append_getElem h2, h3]
          have hok := own_ext ho4 hBr
          have hc1 := hok.cellAt k (by omega)
          rw [List.getElem?_map, hp] at hc1
          simp only [Option.map_some, strV] at hc1
          have HKL := Lib.hid hkl
          have HKK := Lib.hid hkk
          have HSK := Lib.hid hSk
          have HBY := Lib.hid (fun (w' : World) (hb : Below w4.heap.size w4 w') => hub.ext (hB4.trans (hb.mono hB4.size)))
          have HLK := Lib.hid (fun (w' : World) (hb : Below w4.heap.size w4 w') => by
            have := (hM4.below hb hml4).look mapOpTy (zOpV w') hkl hget
            rw [hu] at this
            exact this)
          have hW := hBr.size
          have hnil := World.ownsRow_nil wr w4.heap.size 5 1
          have hlo : ∀ x, Value.ownBlock _ = some x → x < wr.heap.size := fun x hx => (hco.lt x hx).2
          have f2 : decide ((k : Int) < T.length) = true := decide_eq_true (by omega)
          have b3 : (0 : Int) ≤ k := by omega
          have b4 : (k : Int) < T.length := by omega
          obtain ⟨AV, nv, cV, hvv, hvn, _⟩ := id hub
          subst hvv
          have HVN := Lib.hid hvn
          clear hvn hp hmem hget hub hkl hSk hkk hu
          cases hdel : r.del
          · -- there
            have hq := HLK.out _ hBr
            rw [hdel] at hq
            have hf0 : ∀ w : World, (Instr.field 34 (.agg #[.bool false, kv, .slice AV nv cV]) 0).run Try.prog w = .ok (.bool false) w := fun _ => by kernel_rfl
            have hf2 : ∀ w : World, (Instr.field 34 (.agg #[.bool false, kv, .slice AV nv cV]) 2).run Try.prog w = .ok (.slice AV nv cV) w := fun _ => by kernel_rfl
            go_wp2_with (first
              | ((with_reducible refine gd_convert ?_); refine wpList_str_bytes rfl (.tmp 34) rfl rfl HKL.out ?_; intro c5 w5 hk5 hb5 hl5; have hB5 := below_step hBr hb5)
              | ((with_reducible refine gd_alloc ?_); refine wpList_alloc_blk rfl 34 rfl zO ?_; intro w6 hx6 hb6 hl6; have hB6 := below_step hB5 hb6; have hs6 := hx6.lt)
              | ((with_reducible refine gd_store ?_); refine wpList_store_all rfl 34 (.tmp 9) (.tmp 36) rfl #[.bool false, .slice (some ⟨wr.heap.size, 0, none⟩) key.length c5, .slice none 0 0] hx6 hTO rfl rfl rfl rfl ?_; intro w7 hx7 hg7; have hb67 := below_blk hb6 hb6.size hg7 (Nat.le_refl _); have hb57 := below_step hb5 hb67; have hB7 := below_step hBr hb57; have y0 := hx7.cellv (i := 0) rfl; have hq7 := HLK.out _ hB7; rw [hdel] at hq7)
              | (go_at_call 48; refine (Clone_any _ r.value _ (HBY.out _ hB7) (by omega)).mono ?_; rintro e w9 ⟨v9, rfl, ho9, hb9⟩; rw [HVN.out] at ho9; obtain ⟨A9, c9, rfl⟩ := own_sl ho9; have hx9 := hx7.ext hb9)
              | ((with_reducible refine gd_store ?_); refine wpList_store_cell rfl 24 (.tmp 45) (.tmp 44) rfl (i := 2) (v := .slice A9 nv c9) hx9 (show 2 < 3 by decide) (by kernel_rfl) rfl rfl rfl ?_; intro w11 hx11 hg11; have hb511 := below_blk (below_step hb67 hb9) (Nat.le_trans hb67.size hb9.size) hg11 (Nat.le_refl _))
              | ((with_reducible refine gd_load ?_); refine wpList_load_blk rfl 34 (.tmp 9) rfl hx11 hTO rfl ?_)
              | (refine wpList_row_one rfl (.tmp 47) rfl hTU (by decide) (cs := #[.bool false, .slice (some ⟨wr.heap.size, 0, none⟩) key.length c5, .slice A9 nv c9]) rfl rfl ?_; intro w10 hx10 hb10 hl10; have hbr := below_step (below_step hb5 hb511) hb10; have hB10 := below_step hBr hbr; have hco10 := own_ext hco hbr)
              | (at_builtin; refine wpList_append_rd _ rfl (.tmp 46) (.tmp 48) _ rfl w4.heap.size _ _ 3 56 hTU _ _ _ rfl hco10 (some ⟨w11.heap.size, 0, none⟩) 1 1 [.bool false, .slice (some ⟨wr.heap.size, 0, none⟩) key.length c5, .slice A9 nv c9] rfl rfl hx10.rd (by intro u hu; simp only [List.mem_cons, List.not_mem_nil, or_false] at hu; rcases hu with rfl | rfl | rfl <;> rfl) (by unfold maxLen; omega) (by omega) hB10.size ?_; intro vo8 w8 hco8 hg8 hat8)
              | fail)
            have hk8 := ((hk5.ext hb511).ext hb10).grownB hg8 (fun ad e => by injection e with e; subst e; intro e'; have := hlo _ e'.symm; simp only at this; omega)
            have ho11 := own_kept ho9 hg11 hx7.lt
            have sv := stay_new hco hnil hbr hg8 hat8 (bad1 := Rows2 vo8 (.slice none 0 0)) (fun _ h => h) (own_ext (own_base ho11 (by have := hb5.size; have := hb67.size; omega)) hb10)
            have hB8 := below_own hB10 hco10 (Nat.le_refl _) hg8 hB10.size
            have sl := stay_app (c := .slice none 0 0) hco hbr hg8 hat8 (bad := Rows2 _ (.slice none 0 0)) (bad1 := Rows2 vo8 (.slice none 0 0)) (fun _ h => h) (fun _ h => h) HSO.out
            have sk := Stays.bytes (bad := Rows2 vo8 (.slice none 0 0)) hk8 (fun ad e hb => by
              injection e with e
              subst e
              rcases hb with hb | hb
              · rcases hat8 with e1 | e1
                · have := hlo _ (e1 ▸ hb)
                  simp only at this
                  omega
                · rw [e1] at hb
                  injection hb with hb
                  have := hb5.size
                  have := hb67.size
                  simp only at hb
                  have := hb511.size
                  omega
              · cases hb)
            have sl2 := ((sl.and sk).and sv).imp (Q := fun w' => RowC 3 rOp w' (co ++ [.bool false, .slice (some ⟨wr.heap.size, 0, none⟩) key.length c5, .slice A9 nv c9]) ((netL l).take (k + 1))) fun w' h => by
              rw [HSK.out]
              refine h.1.1.more rfl (fun _ => ⟨.slice (some ⟨wr.heap.size, 0, none⟩) key.length c5, .slice A9 nv c9, ?_, rfl, rfl, ?_, ?_⟩)
              · have e : r.bare.del = r.del := rfl
                rw [e, hdel]
              · rw [bare_key, HKK.out]; exact h.1.2
              · have e : r.bare.value = r.value := by unfold Rec.bare; rw [hdel]; rfl
                rw [e]
                exact Bytes.own h.2
            go_roundw
            case rel => exact ⟨k + 1, _, by omega, by go_num, by simpa using hco8, sl2, hB8⟩
            case measure => simp [RowKit.intOf]; omega
          · -- gone
            have hq := HLK.out _ hBr
            rw [hdel] at hq
            have hf0 : ∀ w : World, (Instr.field 34 (.agg #[.bool true, kv, .slice AV nv cV]) 0).run Try.prog w = .ok (.bool true) w := fun _ => by kernel_rfl
            have hf2 : ∀ w : World, (Instr.field 34 (.agg #[.bool true, kv, .slice AV nv cV]) 2).run Try.prog w = .ok (.slice AV nv cV) w := fun _ => by kernel_rfl
            go_wp2_with (first
              | ((with_reducible refine gd_convert ?_); refine wpList_str_bytes rfl (.tmp 34) rfl rfl HKL.out ?_; intro c5 w5 hk5 hb5 hl5; have hB5 := below_step hBr hb5)
              | ((with_reducible refine gd_alloc ?_); refine wpList_alloc_blk rfl 34 rfl zO ?_; intro w6 hx6 hb6 hl6; have hB6 := below_step hB5 hb6; have hs6 := hx6.lt)
              | ((with_reducible refine gd_store ?_); refine wpList_store_all rfl 34 (.tmp 9) (.tmp 36) rfl #[.bool true, .slice (some ⟨wr.heap.size, 0, none⟩) key.length c5, .slice none 0 0] hx6 hTO rfl rfl rfl rfl ?_; intro w7 hx7 hg7; have hb67 := below_blk hb6 hb6.size hg7 (Nat.le_refl _); have hb57 := below_step hb5 hb67; have hB7 := below_step hBr hb57; have y0 := hx7.cellv (i := 0) rfl)
              | ((with_reducible refine gd_load ?_); refine wpList_load_blk rfl 34 (.tmp 9) rfl hx7 hTO rfl ?_)
              | (refine wpList_row_one rfl (.tmp 47) rfl hTU (by decide) (cs := #[.bool true, .slice (some ⟨wr.heap.size, 0, none⟩) key.length c5, .slice none 0 0]) rfl rfl ?_; intro w10 hx10 hb10 hl10; have hbr := below_step hb57 hb10; have hB10 := below_step hBr hbr; have hco10 := own_ext hco hbr)
              | (at_builtin; refine wpList_append_rd _ rfl (.tmp 46) (.tmp 48) _ rfl w4.heap.size _ _ 3 56 hTU _ _ _ rfl hco10 (some ⟨w7.heap.size, 0, none⟩) 1 1 [.bool true, .slice (some ⟨wr.heap.size, 0, none⟩) key.length c5, .slice none 0 0] rfl rfl hx10.rd (by intro u hu; simp only [List.mem_cons, List.not_mem_nil, or_false] at hu; rcases hu with rfl | rfl | rfl <;> rfl) (by unfold maxLen; omega) (by omega) hB10.size ?_; intro vo8 w8 hco8 hg8 hat8)
              | fail)
            have hk8 := ((hk5.ext hb67).ext hb10).grownB hg8 (fun ad e => by injection e with e; subst e; intro e'; have := hlo _ e'.symm; simp only at this; omega)
            have hB8 := below_own hB10 hco10 (Nat.le_refl _) hg8 hB10.size
            have sl := stay_app (c := .slice none 0 0) hco hbr hg8 hat8 (bad := Rows2 _ (.slice none 0 0)) (bad1 := Rows2 vo8 (.slice none 0 0)) (fun _ h => h) (fun _ h => h) HSO.out
            have sk := Stays.bytes (bad := Rows2 vo8 (.slice none 0 0)) hk8 (fun ad e hb => by
              injection e with e
              subst e
              rcases hb with hb | hb
              · rcases hat8 with e1 | e1
                · have := hlo _ (e1 ▸ hb)
                  simp only at this
                  omega
                · rw [e1] at hb
                  injection hb with hb
                  have := hb5.size
                  have := hb67.size
                  simp only at hb
                  omega
              · cases hb)
            have sl2 := (sl.and sk).imp (Q := fun w' => RowC 3 rOp w' (co ++ [.bool true, .slice (some ⟨wr.heap.size, 0, none⟩) key.length c5, .slice none 0 0]) ((netL l).take (k + 1))) fun w' h => by
              rw [HSK.out]
              refine h.1.more rfl (fun _ => ⟨.slice (some ⟨wr.heap.size, 0, none⟩) key.length c5, .slice none 0 0, ?_, rfl, rfl, ?_, ?_⟩)
              · have e : r.bare.del = r.del := rfl
                rw [e, hdel]
              · rw [bare_key, HKK.out]; exact h.2
              · have e : r.bare.value = [] := by unfold Rec.bare; rw [hdel]; rfl
                rw [e]
                exact Bytes.nil _
            go_roundw
            case rel => exact ⟨k + 1, _, by omega, by go_num, by simpa using hco8, sl2, hB8⟩
            case measure => simp [RowKit.intOf]; omega
        · obtain rfl : k = T.length := by omega
          have f2 : decide ((T.length : Int) < T.length) = false := decide_eq_false (by omega)
          have hSl : (netL l).take T.length = netL l := by
            have e : T.length = (netL l).length := by unfold netL; rw [List.length_map, ← HT.out.1]; unfold mapP; rw [List.length_map]
            rw [e, List.take_length]
          have hfin := HSO.out.now
          rw [hSl] at hfin
          go_wp2
          go_ret
          exact ⟨_, rfl, slice_of_own hco (by have := hfin.1; have := hco.1; omega) hfin.2, hB4.trans (hBr.mono hB4.size)⟩
end Go.Mun
