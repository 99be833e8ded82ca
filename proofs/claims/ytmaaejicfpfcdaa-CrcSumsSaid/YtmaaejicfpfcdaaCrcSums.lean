/- 'munimentslaw20.CrcSums' answers true at every input, and leaves what it was given. No condition. -/
import Derived.Test.YtmaaejicfpfcdaaCrcAlive
import Derived.Test.YtmaaejicfpfcdaaRows
import Derived.Test.YtmaaejicfpfcdaaLaw
namespace Go.Proofs.Ytmaaejicfpfcdaa.CrcSums
open Go Go.RowKit Go.Mun Go.Proofs

theorem bytes24 : SliceTy Try.prog 24 5 (.int .u8 0) 1 1 := SliceTy.mk' Try.underlying24 (by kernel_rfl) rfl (by omega)

theorem chunk_one {xs : List Value} {i : Nat} (h : i < xs.length) : chunk xs 1 i = [xs[i]] := by
  unfold chunk
  rw [Nat.mul_one]
  apply List.ext_getElem?
  intro j
  rcases j with _ | j
  · simp [h]
  · simp; omega

/-- what has been gathered after k lists -/
theorem flat_step (ls : List (List UInt8)) {k : Nat} (h : k < ls.length) : bv (ls.take (k + 1)).flatten = bv (ls.take k).flatten ++ bv ls[k] := by
  rw [take_snoc ls h, List.flatten_append, bv_append]; simp
theorem flat_len (ls : List (List UInt8)) {k : Nat} (h : k < ls.length) : (ls.take (k + 1)).flatten.length = (ls.take k).flatten.length + ls[k].length := by
  rw [take_snoc ls h, List.flatten_append, List.length_append]; simp

set_option maxRecDepth 100000 in
set_option maxHeartbeats 400000 in
theorem walk (v : Value) (ls : List (List UInt8)) (w : World) (h : SliceOf 1 rBytes w v ls) :
    Calls Try.prog 3 #[v] w fun e w' => e = .returned (.bool true) ∧ Below w.heap.size w w' := by
  obtain ⟨A, n, c, vs, rfl, hl, hvl, hnc, hcm, hr, hb⟩ := h
  rw [Nat.mul_one] at hvl
  have hb' : ∀ i (hi : i < n), Bytes w (vs[i]) ls[i] := fun i hi => by
    have := hb i (by omega)
    rw [chunk_one (by omega)] at this
    obtain ⟨v, e, hv⟩ := this
    injection e with e
    rw [e]
    exact hv
  clear hb
  unfold maxLen at hcm
  by_cases h30 : 30 < n
  · go_enter Try.func3, Try.ntmps3
    go_wp2_with fail
    refine (alive20 w).mono ?_
    rintro e w1 ⟨rfl, hb1⟩
    have h30' : (30 : Int) < (n : Int) := by omega
    go_wp2
    go_ret
    exact ⟨rfl, hb1⟩
  · have h30' : decide ((30 : Int) < (n : Int)) = false := by simp; omega
    have ht := bytes24
    go_enter Try.func3, Try.ntmps3
    go_wp2_with fail
    refine (alive20 w).mono ?_
    rintro e w1 ⟨rfl, hb1⟩
    go_wp2
    go_loopw [4, 5] (fun v i wr => ∃ k : Nat, k ≤ n ∧ i = .int .i64 k ∧ Below w.heap.size w wr ∧ (ls.take k).flatten.length ≤ 1000 * k ∧
        wr.ownsRow w.heap.size 5 1 v (ls.take k).flatten.length (bv (ls.take k).flatten)) (fun _ i _ => n - (intOf i).toNat)
    case atStart => exact ⟨0, Nat.zero_le _, rfl, hb1, by simp, World.ownsRow_nil _ _ _ _⟩
    case round =>
      obtain ⟨k, hk, rfl, hbr, hlen, hown⟩ := hrel
      by_cases hlt : k < n
      · obtain ⟨ad, rfl, hcell⟩ := (hr.ext hbr).at_ (j := k) (by omega)
        obtain ⟨B, m, c', hv, hm1, hm2, hm3, hm4⟩ := (hb' k hlt).ext hbr
        rw [hv] at hcell
        have hs1 := flat_step ls (k := k) (by omega)
        have hs2 := flat_len ls (k := k) (by omega)
        have HS1 := Lib.hid hs1
        have HS2 := Lib.hid hs2
        clear hs1 hs2 hv hb' hr hb1
        unfold maxLen at hm3
        by_cases hbig : 1000 < m
        · go_wp2
          go_ret
          exact ⟨rfl, hbr⟩
        · have hbnd : (ls.take k).flatten.length + m ≤ 1000 * k + 1000 := by omega
          go_wp2_with (at_builtin; refine wpList_append_rd _ rfl (.tmp 27) (.tmp 31) _ rfl w.heap.size _ _ 1 1 ht _ _ _ rfl hown B m c' (bv ls[k]) rfl (by rw [bv_length]; omega) hm4 bv_one (by unfold maxLen; omega) (by omega) hbr.size ?_; intro v2 w2 hown2 hg2 _)
          have hb2 := below_own hbr hown (Nat.le_refl _) hg2 hbr.size
          go_roundw
          case rel =>
            refine ⟨k + 1, by omega, by go_num, hb2, by rw [HS2.out]; omega, ?_⟩
            rw [HS1.out, HS2.out, hm1]
            exact hown2
          case measure => simp [intOf]; omega
      · obtain rfl : k = n := by omega
        rw [show ls.take k = ls from List.take_of_length_le (by omega)] at hown hlen
        have hB := Bytes.own hown
        obtain ⟨A', n', c', rfl, g1, g2, g3, g4⟩ := hB
        have hbl : ∀ i (hi : i < k), Bytes wr (vs[i]) ls[i] := fun i hi => (hb' i hi).ext hbr
        have hrr := hr.ext hbr
        clear hr hb' hown ht
        go_wp2_with fail
        refine (Sum_any A k c ls vs _ hl hvl (by omega) hrr hbl).mono ?_
        rintro e w2 ⟨rfl, rfl⟩
        go_wp2_with fail
        refine (Crc_any A' n' c' ls.flatten _ g1 g4 (by omega)).mono ?_
        rintro e w2 ⟨rfl, rfl⟩
        generalize crcSum ls.flatten = s
        go_wp2
        go_ret
        exact ⟨by simp, hbr⟩
open Go.ChangeShapes Go.WideShapes Go.ChangeAt

set_option maxRecDepth 100000 in
theorem lifted (os : Os) (started : os.Started) (H : Type) (enc : TypeId × Value → H) :
    ReturnsInHanded {} Try.checked os 3 .any (Rows.crcSumsSpec.pre6 enc Try.prog Try.f3 Rows.crcSumsRow.domain false) (Rows.crcSumsSpec.post enc Try.prog Try.f3 false true false false) := by
  refine law_lift (C := Try.checked) (ts := [22]) (tb := 4) (by kernel_rfl) started (by kernel_rfl) Try.func3
    (ChangeSpec.witness6 (enc := enc) (C := Try.checked) false ⟨#[], #[.slice none 0 0], []⟩ 8 (by kernel_rfl) (by kernel_rfl) (by kernel_rfl) (by kernel_rfl))
    (by kernel_rfl) (by kernel_rfl) (by kernel_rfl) (by kernel_rfl) Try.underlying4 rfl (fun ds h => by match ds, h with | [_], _ => rfl) ?_
  intro W vs hl h
  match vs, hl with
  | [v0], _ =>
    obtain ⟨ls, hs⟩ := arg_slice Try.underlying22 (by kernel_rfl) (opens_bytes enc 0 (fun _ => true) true Try.underlying24 Try.underlying5 (by kernel_rfl)) (h 0 _ v0 rfl rfl)
    exact walk v0 ls W hs

theorem over : Rows.crcSumsRow.holds Try.pinned (OpenSpec.ofChange Rows.crcSumsSpec) :=
  OpenClaim.holds_of_wide 3 Try.f3 rfl rfl rfl rfl rfl rfl rfl ⟨rfl, rfl, rfl, rfl, rfl⟩ rfl rfl rfl rfl rfl (by kernel_rfl) Try.func3 (by kernel_rfl)
    (of_decide_eq_true (by kernel_rfl)) (by unfold Func.isWrapper; first | (rw [if_pos (by decide +kernel)]; kernel_rfl) | (rw [if_neg (by decide +kernel)]; exact ⟨rfl, rfl⟩))
    (fun os started H enc _ => lifted os started H enc)

end Go.Proofs.Ytmaaejicfpfcdaa.CrcSums
namespace Go.Proofs.Ytmaaejicfpfcdaa
theorem crcSums_holds : Rows.CrcSumsSaid := CrcSums.over
#print axioms crcSums_holds
end Go.Proofs.Ytmaaejicfpfcdaa
