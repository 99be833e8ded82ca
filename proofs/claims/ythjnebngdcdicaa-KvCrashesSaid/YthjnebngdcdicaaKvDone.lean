/- Done of the reference: pairs in blocks that are nobody's. -/
import Derived.Test.YthjnebngdcdicaaKvSet
import Derived.Test.YthjnebngdcdicaaKvLit
namespace Go.Mun
open Go Go.RowKit Go.Proofs

/-- a slice that lies in nobody's block -/
def GoodV (o : Own) (u : Value) : Prop := ∀ ad n c, u = .slice (some ad) n c → 0 < n → o ad.block = none
/-- a row of pairs in blocks that are nobody's -/
structure PairsF (o : Own) (w : World) (v : Value) (P : PLB) : Prop where
  ex : ∃ xs, RowAt 2 rPair w v P xs ∧ (∀ u ∈ xs, GoodV o u) ∧ GoodV o v
theorem PairsF.slice {o : Own} {w : World} {v : Value} {P : PLB} (h : PairsF o w v P) : SliceOf 2 rPair w v P := by
  obtain ⟨xs, ⟨A, n, c, h1, h2, h3, h4, h5, h6, h7⟩, _⟩ := h.ex
  exact ⟨A, n, c, xs, h1, h2, h3, h4, h5, h6, h7⟩
theorem PairsF.nil (o : Own) (w : World) : PairsF o w (.slice none 0 0) [] := ⟨[], ⟨none, 0, 0, rfl, rfl, rfl, Nat.le_refl _, by unfold maxLen; decide, Rd.nil _ _, fun i hi => by simp at hi⟩, fun u hu => absurd hu List.not_mem_nil, fun ad n c e => by cases e⟩
theorem NewV.good {o : Own} {w : World} {base : Nat} {u : Value} (h : NewV base u) (ho : OwnIn o w) (hb : w.heap.size ≤ base) : GoodV o u := fun ad n c e _ => ho _ (Nat.le_trans hb (h ad n c e))
theorem own_newV {w : World} {base : Nat} {e : TypeId} {size n : Nat} {v : Value} {xs : List Value} (h : w.ownsRow base e size v n xs) : NewV base v := fun ad m c ev => by
  rcases h.2 with ⟨e1, _⟩ | ⟨g, cap, cur, e1, e2, _⟩
  · rw [e1] at ev; cases ev
  · rw [e1] at ev
    injection ev with ev
    injection ev with ev
    rw [← ev]
    exact e2
theorem chunk_mem {xs : List Value} {s i : Nat} {u : Value} (h : u ∈ chunk xs s i) : u ∈ xs := by
  unfold chunk at h
  exact List.mem_of_mem_drop (List.mem_of_mem_take h)
theorem rowAt_own {w : World} {base n : Nat} {e : TypeId} {v : Value} {ys : List Value} {P : PLB} (h : w.ownsRow base e 2 v n ys) (hn : P.length = n) (hr : RowC 2 rPair w ys P) : RowAt 2 rPair w v P ys := by
  rcases h.2 with ⟨e1, e2⟩ | ⟨g, cap, cur, e1, _, _, e4, e5, _⟩
  · refine ⟨none, 0, 0, e1, by omega, by have := h.1; rw [e2] at this; exact this, Nat.le_refl _, by unfold maxLen; decide, ?_, hr.2⟩
    have : ys = [] := List.eq_nil_of_length_eq_zero (by have := h.1; rw [e2] at this; simpa using this)
    rw [this]
    exact Rd.nil _ _
  · subst e1
    exact ⟨_, n, cap, rfl, hn, h.1, e4, e5, Rd.own h, hr.2⟩
/-- pairs that a KV told -/
theorem PairsO.free {o : Own} {w w' : World} {base : Nat} {v : Value} {S : PLB} (h : PairsO base w' v S) (ho : OwnIn o w) (hb : w.heap.size ≤ base) : PairsF o w' v S := by
  obtain ⟨xs, h1, h2⟩ := h
  refine ⟨xs, rowAt_own h1 rfl ⟨h2.1, fun i hi => rPairO_pair (h2.2 i hi)⟩, fun u hu => ?_, (own_newV h1).good ho hb⟩
  obtain ⟨m, hm, e⟩ := List.mem_iff_getElem.1 hu
  have hl := h2.1
  have hi : m / 2 < S.length := by omega
  obtain ⟨kv, vv, e1, ⟨_, g2⟩, g3⟩ := h2.2 (m / 2) hi
  have hc : u ∈ chunk xs 2 (m / 2) := by
    unfold chunk
    rw [List.mem_iff_getElem]
    refine ⟨m % 2, by rw [List.length_take, List.length_drop]; omega, ?_⟩
    rw [List.getElem_take, List.getElem_drop]
    simp only [show m / 2 * 2 + m % 2 = m by omega]
    exact e
  rw [e1] at hc
  rcases List.mem_cons.1 hc with rfl | hc
  · exact g2.good ho hb
  · rw [List.mem_singleton.1 hc]
    exact (own_newV g3).good ho hb
theorem PairsF.turn {k : Nat} {o o' : Own} {w w' : World} {v : Value} {P : PLB} (h : PairsF o w v P) (hT : Turn k o o' w w') : PairsF o' w' v P := by
  obtain ⟨xs, ⟨A, n, c, rfl, h2, h3, h4, h5, h6, h7⟩, hg, hv⟩ := h.ex
  have hgv : ∀ {u : Value} {l : List UInt8}, Bytes w u l → GoodV o u → Lone o w u l := fun hb hg => ⟨hb, hg⟩
  have hL : ∀ i (hi : i < P.length), ∃ kv vv, chunk xs 2 i = [kv, vv] ∧ Lone o w kv P[i].1 ∧ Lone o w vv P[i].2 := fun i hi => by
    obtain ⟨kv, vv, e, g1, g2⟩ := h7 i hi
    exact ⟨kv, vv, e, hgv g1 (hg _ (chunk_mem (i := i) (s := 2) (by rw [e]; simp))), hgv g2 (hg _ (chunk_mem (i := i) (s := 2) (by rw [e]; simp)))⟩
  refine ⟨xs, ⟨A, n, c, rfl, h2, h3, h4, h5, fun j u hu => ?_, fun i hi => ?_⟩, fun u hu => ?_, ?_⟩
  · obtain ⟨ad, e, hc⟩ := h6 j u hu
    refine ⟨ad, e, ?_⟩
    have hn : 0 < n := by have := (List.getElem?_eq_some_iff.1 hu).1; omega
    have hb := hv ad n c (by rw [e]) hn
    have hlt : (ad.add j).block < w.heap.size := World.block_lt_of_cell? w _ hc
    have hbl := add_block ad j
    exact (World.cell?_of_block (hT.block _ hlt fun t => by rw [hbl, hb]; simp)).trans hc
  · obtain ⟨kv, vv, e, g1, g2⟩ := hL i hi
    exact ⟨kv, vv, e, (g1.turn hT).bytes, (g2.turn hT).bytes⟩
  · obtain ⟨m, hm, e⟩ := List.mem_iff_getElem.1 hu
    have hi : m / 2 < P.length := by omega
    obtain ⟨kv, vv, e1, g1, g2⟩ := hL (m / 2) hi
    have hc : u ∈ chunk xs 2 (m / 2) := by
      unfold chunk
      rw [List.mem_iff_getElem]
      refine ⟨m % 2, by rw [List.length_take, List.length_drop]; omega, ?_⟩
      rw [List.getElem_take, List.getElem_drop]
      simp only [show m / 2 * 2 + m % 2 = m by omega]
      exact e
    rw [e1] at hc
    rcases List.mem_cons.1 hc with rfl | hc
    · exact (g1.turn hT).none
    · rw [List.mem_singleton.1 hc]
      exact (g2.turn hT).none
  · intro ad n' c' e hn
    have hb := hv ad n' c' e hn
    injection e with e1 e2 e3
    subst e1 e2
    obtain ⟨u, hu⟩ : ∃ u, xs[0]? = some u := ⟨_, List.getElem?_eq_getElem (by omega)⟩
    obtain ⟨ad', e5, hc⟩ := h6 0 u hu
    injection e5 with e5
    subst e5
    have hlt := World.block_lt_of_cell? w _ hc
    rw [add_block] at hlt
    rw [hT.old _ hlt]
    exact hb
theorem PairsF.ext {o : Own} {w w' : World} {v : Value} {P : PLB} (h : PairsF o w v P) (ho : OwnIn o w) (hb : Below w.heap.size w w') : PairsF o w' v P := h.turn (k := 0) (Turn.below ho hb)
set_option maxRecDepth 100000 in
set_option maxHeartbeats 4000000 in
theorem Done_free (o : Own) (va vl : Value) (P : PLB) (l : List Rec) (w : World) (h : PairsF o w va P) (ho : OwnIn o w) (hl : SliceOf 3 rOp w vl l) (hP : Rises P) (hn : P.length + l.length ≤ 100000) (hf : Fit l) :
    Calls Try.prog 19 #[va, vl] w fun e w' => ∃ v', e = .returned v' ∧ PairsF o w' v' (doneP P l) ∧ Below w.heap.size w w' := by
  obtain ⟨A, n, c, xs, rfl, g1, g2, g3, g4, g5, g6⟩ := hl
  unfold maxLen at g4
  have HOP := Lib.hid (fun (i : Nat) (hi : i < n) (w' : World) (hb : Below w.heap.size w w') => op_at' (g5.ext hb) g1 g2 g6 hi)
  have HF := Lib.hid hf
  have HLN := Lib.hid (fun j => Nat.le_trans (length_done P (l.take j)) (show P.length + (l.take j).length ≤ 100000 by rw [List.length_take]; omega))
  have HTK := Lib.hid (show l.take n = l by rw [← g1]; exact List.take_length)
  have H0 := Lib.hid h
  have HO := Lib.hid ho
  clear hf g1 g2 g5 g6 hn h ho
  go_enter Try.func19, Try.ntmps19
  go_wp2
  go_loopw [0, 5] (fun vp iv wr => ∃ (j : Nat), j ≤ n ∧ iv = .int .i64 j ∧ PairsF o wr vp (doneP P (l.take j)) ∧ Below w.heap.size w wr) (fun _ iv _ => n - (RowKit.intOf iv).toNat)
  case atStart => exact ⟨0, Nat.zero_le _, rfl, H0.out, Below.refl _ _⟩
  case round =>
    obtain ⟨j, hj, rfl, hs, hBr⟩ := hrel
    by_cases hlt : j < n
    · obtain ⟨ad2, r, kv, vv, rfl, r0, r1, r2, hoi, hkb, hvb⟩ := HOP.out j hlt _ hBr
      have f2 : decide ((j : Int) < n) = true := decide_eq_true (by omega)
      have b3 : (0 : Int) ≤ j := by omega
      have b4 : (j : Int) < n := by omega
      have HFO := Lib.hid (HF.out r (List.mem_of_getElem? hoi))
      have HOB := Lib.hid (And.intro (hkb.ext hBr) (hvb.ext hBr))
      have HSN := Lib.hid (doneP_snoc P hoi)
      have hor := HO.out.more hBr.size
      obtain ⟨ys, hrow, hgood, hgv⟩ := hs.ex
      have HROW := Lib.hid hrow
      obtain ⟨AK, nk, cK, hkv, _⟩ := id hkb
      subst hkv
      obtain ⟨AV, nv, cV, hvv, _⟩ := id hvb
      subst hvv
      clear hkb hvb hoi hrow
      go_wp2_with (first
        | (go_at_call 38; refine (setPair_row ys _ _ r AK AV nk cK nv cV _ HROW.out (doneP_rises _ hP) (HLN.out j) HOB.out.1 HOB.out.2 HFO.out.1 HFO.out.2).mono ?_; rintro e w4 ⟨v4, rfl, ⟨zs, hz1, hz2, hz3⟩, hb4⟩)
        | fail)
      have hB4 := below_step hBr hb4
      have hs4 : PairsF o w4 v4 (doneP P (l.take (j + 1))) := by
        rw [HSN.out]
        exact ⟨zs, rowAt_own hz1 rfl hz2, fun u hu => (hz3 u hu).elim (hgood u) (fun h => h.good hor (Nat.le_refl _)), (own_newV hz1).good hor (Nat.le_refl _)⟩
      go_roundw
      case rel => exact ⟨j + 1, by omega, by go_num, hs4, hB4⟩
      case measure => simp [RowKit.intOf]; omega
    · obtain rfl : j = n := by omega
      have f1 : decide ((j : Int) < j) = false := decide_eq_false (by omega)
      rw [HTK.out] at hs
      go_wp2
      go_ret
      exact ⟨_, rfl, hs, hBr⟩
end Go.Mun
