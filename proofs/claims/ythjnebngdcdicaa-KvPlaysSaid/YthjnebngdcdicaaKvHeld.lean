/- Whether a KV holds pairs. -/
import Derived.Test.YthjnebngdcdicaaKvBound
namespace Go.Mun
open Go Go.RowKit Go.Proofs Go.Maps

set_option maxRecDepth 100000 in
set_option maxHeartbeats 4000000 in
theorem held_any {j q p N : Nat} {S : PLB} {clean dead : Bool} {o : Own} {w : World} (h : KvAt j q p S clean dead o N w) (v : Value) (hv : SliceOf 2 rPair w v S) :
    Calls Try.prog 20 #[.pointer (some ⟨q, 0, none⟩), v] w fun e w' => e = .returned (.bool true) ∧ Below w.heap.size w w' := by
  have CP := Lib.hid (Pairs_any h)
  have CS := Lib.hid (fun va w' (hb : Below w.heap.size w w') (ha : SliceOf 2 rPair w' va S) => SamePairs_true va v S w' ha (hv.ext rPair_stays hb))
  have hfit := h.fit
  have CG := Lib.hid (fun kv key val w' (hb : Below w.heap.size w w') (hk : Bytes w' kv key) (hg : getP S key = some val) => Get_some (h.ext hb) kv key val hk hg)
  have CN := Lib.hid (fun kv key w' (hb : Below w.heap.size w w') (hk : Bytes w' kv key) (hg : getP S key = none) => Get_none (h.ext hb) kv key hk hg)
  obtain ⟨A, n, c, xs, rfl, g1, g2, g3, g4, g5, g6⟩ := hv
  unfold maxLen at g4
  have hn : n ≤ 1900 := by have := hfit.len; omega
  have HP := Lib.hid (fun w' (hb : Below w.heap.size w w') k (hk : k < n) => pair_at (g5.ext hb) g1 g2 g6 hk)
  have HG := Lib.hid (fun (e : PairB) (he : e ∈ S) => getP_at hfit.rises he)
  have HS := Lib.hid (fun (w : World) (A : Option Addr) (n c : Nat) (l : List UInt8) (h : Bytes w (.slice A n c) l) => run_str (P := Try.prog) (src := 22) (dst := 9) h Try.underlying22 Try.underlying5 Try.underlying9)
  have HN := Lib.hid (show n = 0 → getP S neverWritten = none from fun e => by
    have e2 : S = [] := List.eq_nil_of_length_eq_zero (by omega)
    rw [e2]
    rfl)
  obtain ⟨gn, hgn⟩ : ∃ x, x = getP S neverWritten := ⟨_, rfl⟩
  have HGN := Lib.hid hgn
  rw [← hgn] at HN
  clear h hfit g1 g2 g5 g6 hgn
  go_enter Try.func20, Try.ntmps20
  go_wp2_with (first
    | (go_at_call 22; (with_reducible refine CP.out.mono ?_); rintro e w1 ⟨v1, rfl, h1, hb1⟩; have HPO := Lib.hid h1.slice)
    | (go_at_call 23; (with_reducible refine (CS.out _ _ hb1 HPO.out).mono ?_); rintro e w2 ⟨rfl, hb2⟩; have hB2 := below_step hb1 hb2)
    | fail)
  clear h1 hb1 hb2
  go_loopw [5] (fun iv wr => ∃ k : Nat, k ≤ n ∧ iv = .int .i64 k ∧ Below w.heap.size w wr) (fun iv _ => n - (RowKit.intOf iv).toNat)
  case atStart => exact ⟨0, Nat.zero_le _, rfl, hB2⟩
  case round =>
    obtain ⟨k, hk, rfl, hBr⟩ := hrel
    by_cases hlt : k < n
    · clear hk
      obtain ⟨ad, p, kv, vv, rfl, c0, c1, hp, b1, b2⟩ := HP.out wr hBr k hlt
      obtain ⟨key, val⟩ := p
      simp only at b1 b2
      have HGK := Lib.hid (HG.out _ (List.mem_of_getElem? hp))
      simp only at HGK
      obtain ⟨AK, nk, cK, rfl⟩ : ∃ A n c, kv = Value.slice A n c := by obtain ⟨A, n, c, h, _⟩ := b1; exact ⟨A, n, c, h⟩
      obtain ⟨AV, nv, cV, rfl⟩ : ∃ A n c, vv = Value.slice A n c := by obtain ⟨A, n, c, h, _⟩ := b2; exact ⟨A, n, c, h⟩
      have HB1 := Lib.hid (b1.ext hBr)
      have HB2 := Lib.hid (b2.ext hBr)
      have HC1 := Lib.hid (fun w' (hb : Below wr.heap.size wr w') => cell_ext hb c1)
      clear hp b1 b2
      have f1 : decide ((k : Int) < n) = true := decide_eq_true (by omega)
      have z1 : (0 : Int) ≤ k := by omega
      have z2 : (k : Int) < n := by omega
      have s1 := str_nes val
      go_upto_region 7 with (first
        | (go_at_call 14; (refine (CG.out _ key _ _ hBr HB1.out HGK.out).mono ?_); rintro e w3 ⟨v3, rfl, ho3, hb3⟩)
        | fail)
      obtain ⟨A3, c3, rfl⟩ := own_sl ho3
      have q1 := fun m => HS.out _ _ _ _ _ (Bytes_drewN (Bytes.own ho3) m)
      have q2 := fun m => HS.out _ _ _ _ _ (Bytes_drewN (HB2.out.ext hb3) m)
      have hc1 := HC1.out _ hb3
      have hB3 := below_step hBr hb3
      clear c0 c1 ho3
      go_quiet (fail)
      have hBq := below_step hB3 (below_drewN (Below.refl w3.heap.size w3) nq)
      go_wp2
      go_roundw
      case rel => exact ⟨k + 1, by omega, by go_num, hBq⟩
      case measure => simp [RowKit.intOf]; omega
    · obtain rfl : k = n := by omega
      have f1 : decide ((k : Int) < k) = false := decide_eq_false (by omega)
      have HN0 := HN.out
      by_cases h0 : k = 0
      · subst h0
        have e0 := HN0 rfl
        subst e0
        go_wp2_with (first
          | (refine wpList_neverWritten rfl rfl ?_; intro w7 hx7 hb7 hl7)
          | ((with_reducible refine gd_convert ?_); refine wpList_lit rfl (.tmp 46) rfl u8sTy u8Ty rfl hx7 (l := neverWritten) rfl rfl (Nat.le_refl _) (by decide) ?_; intro w8 hg8 hs8 B8; clear hs8; have hb8 := below_blk hb7 hb7.size hg8 (Nat.le_refl _); have hB8 := below_step hBr hb8)
          | (go_at_call 14; (refine (CN.out _ neverWritten _ hB8 B8 HGN.out.symm).mono ?_); rintro e w9 ⟨v9, rfl, ho9, hb9⟩)
          | fail)
        go_ret
        exact ⟨rfl, below_step hB8 hb9⟩
      · have e1 : decide ((0 : Int) < k) = true := decide_eq_true (by omega)
        have e2 : decide (0 < k) = true := decide_eq_true (by omega)
        cases gn with
        | none =>
          go_wp2_with (first
            | (refine wpList_neverWritten rfl rfl ?_; intro w7 hx7 hb7 hl7)
            | ((with_reducible refine gd_convert ?_); refine wpList_lit rfl (.tmp 46) rfl u8sTy u8Ty rfl hx7 (l := neverWritten) rfl rfl (Nat.le_refl _) (by decide) ?_; intro w8 hg8 hs8 B8; clear hs8; have hb8 := below_blk hb7 hb7.size hg8 (Nat.le_refl _); have hB8 := below_step hBr hb8)
            | (go_at_call 14; (refine (CN.out _ neverWritten _ hB8 B8 HGN.out.symm).mono ?_); rintro e w9 ⟨v9, rfl, ho9, hb9⟩)
            | fail)
          go_ret
          exact ⟨rfl, below_step hB8 hb9⟩
        | some gv =>
          go_wp2_with (first
            | (refine wpList_neverWritten rfl rfl ?_; intro w7 hx7 hb7 hl7)
            | ((with_reducible refine gd_convert ?_); refine wpList_lit rfl (.tmp 46) rfl u8sTy u8Ty rfl hx7 (l := neverWritten) rfl rfl (Nat.le_refl _) (by decide) ?_; intro w8 hg8 hs8 B8; clear hs8; have hb8 := below_blk hb7 hb7.size hg8 (Nat.le_refl _); have hB8 := below_step hBr hb8)
            | (go_at_call 14; (refine (CG.out _ neverWritten _ _ hB8 B8 HGN.out.symm).mono ?_); rintro e w9 ⟨v9, rfl, ho9, hb9⟩)
            | fail)
          go_ret
          exact ⟨rfl, below_step hB8 hb9⟩
end Go.Mun
