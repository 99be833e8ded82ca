/- What a row of calls leaves, step by step; values that are written over. -/
import Derived.Test.YthjnebngdcdicaaKvHeld
import Derived.Test.YthjnebngdcdicaaKvT
import Derived.Test.YthjnebngdcdicaaKvOneKey
namespace Go.Mun
open Go Go.RowKit Go.Proofs Go.Maps

/-- behind i acts -/
structure Pl (p q : Nat) (vp : Value) (i : Nat) (S : PLB) (w0 w : World) : Prop where
  ex : ∃ M clean N o, N ≤ 60 * i ∧ UpK 0 1 p q M S clean (i + 1) (Bt i) N (10 * i) (1200000 * i) o w0 w ∧ PairsF o w vp S
  small : Small i S
/-- behind a Write, ahead of Done -/
structure Pm (p q : Nat) (vp : Value) (i : Nat) (S : PLB) (l : List Rec) (w0 w : World) : Prop where
  ex : ∃ M clean N o, N ≤ 60 * (i + 1) ∧ UpK 0 1 p q M (doneP S l) clean (i + 2) (Bt (i + 1)) N (10 * (i + 1)) (1200000 * (i + 1)) o w0 w ∧ PairsF o w vp S
  small : Small i S
/-- behind a Compact -/
structure Pc (p q : Nat) (vp : Value) (i : Nat) (S : PLB) (w0 w : World) : Prop where
  ex : ∃ M clean N o, N ≤ 60 * (i + 1) ∧ UpK 0 1 p q M S clean (i + 2) (wholeB S).length N (10 * (i + 1)) (1200000 * (i + 1)) o w0 w ∧ PairsF o w vp S
  small : Small i S
section
variable {p q i : Nat} {vp : Value} {S : PLB} {l : List Rec} {w0 w w' : World} {o : Own}
theorem Pl.below (h : Pl p q vp i S w0 w) : Below w0.heap.size w0 w := by
  obtain ⟨M, c, N, o, _, h, _⟩ := h.ex
  exact h.fs.below
theorem Pl.ext (h : Pl p q vp i S w0 w) (hb : Below w.heap.size w w') : Pl p q vp i S w0 w' := by
  obtain ⟨M, c, N, o, hN, h1, h2⟩ := h.ex
  exact ⟨⟨M, c, N, o, hN, h1.ext hb, h2.ext h1.fs.own hb⟩, h.small⟩
theorem Pl.pairs (h : Pl p q vp i S w0 w) : SliceOf 2 rPair w vp S := by
  obtain ⟨M, c, N, o, hN, h1, h2⟩ := h.ex
  exact h2.slice
theorem Pm.below (h : Pm p q vp i S l w0 w) : Below w0.heap.size w0 w := by
  obtain ⟨M, c, N, o, _, h, _⟩ := h.ex
  exact h.fs.below
theorem Pc.below (h : Pc p q vp i S w0 w) : Below w0.heap.size w0 w := by
  obtain ⟨M, c, N, o, _, h, _⟩ := h.ex
  exact h.fs.below
theorem Pc.ext (h : Pc p q vp i S w0 w) (hb : Below w.heap.size w w') : Pc p q vp i S w0 w' := by
  obtain ⟨M, c, N, o, hN, h1, h2⟩ := h.ex
  exact ⟨⟨M, c, N, o, hN, h1.ext hb, h2.ext h1.fs.own hb⟩, h.small⟩
theorem Pc.pairs (h : Pc p q vp i S w0 w) : SliceOf 2 rPair w vp S := by
  obtain ⟨M, c, N, o, hN, h1, h2⟩ := h.ex
  exact h2.slice
theorem Pc.pl (h : Pc p q vp i S w0 w) (hi : i ≤ 30) : Pl p q vp (i + 1) S w0 w := by
  obtain ⟨M, c, N, o, hN, h1, h2⟩ := h.ex
  have := h.small.whole (by omega)
  exact ⟨⟨M, c, N, o, hN, h1.more (Nat.le_refl _) (by unfold Bt; omega) (Nat.le_refl _) (Nat.le_refl _), h2⟩, h.small.mono (by omega)⟩
theorem Pl_open (h : Up 0 p newM [] 1 0 0 0 o w0 w) :
    Calls Try.prog 11 #[.pointer (some ⟨p, 0, none⟩)] w fun e w' => ∃ q, e = .returned (.tuple #[.pointer (some ⟨q, 0, none⟩), .int .i64 0]) ∧ Pl p q (.slice none 0 0) 0 [] w0 w' := by
  refine (Open_up (j := 1) h ((Small.nil 0).fit (by decide)) (by decide) (by decide) (by decide) (by decide)).mono ?_
  rintro e w' ⟨q, he, clean, o', h1, _, _⟩
  exact ⟨q, he, ⟨_, _, _, o', Nat.le_refl _, h1.more (by decide) (by decide) (by decide) (by decide), PairsF.nil _ _⟩, Small.nil 0⟩
theorem Pl_write {vl : Value} (h : Pl p q vp i S w0 w) (hi : i < 30) (hl : SliceOf 3 rOp w vl l) (hw : SmallL l) :
    Calls Try.prog 12 #[.pointer (some ⟨q, 0, none⟩), vl] w fun e w' => e = .returned (.int .i64 0) ∧ Pm p q vp i S l w0 w' := by
  obtain ⟨M, c, N, o, hN, h1, h2⟩ := h.ex
  have hs' := h.small.done hw
  have hwl := hs'.whole (by omega)
  have hbl := hw.batch
  have hl6 := hw.1
  refine (Write_up (B' := Bt (i + 1)) h1 (by decide) hl hw.wide (hs'.fit (by omega)) (by omega) (by omega) (by omega) (by omega) (by unfold Bt; omega) (by unfold Bt; omega)).mono ?_
  rintro e w' ⟨he, M', o1, o', w1, g1, g2, g3⟩
  exact ⟨he, ⟨M', _, _, o', by omega, g1.more (by omega) (Nat.le_refl _) (by omega) (by unfold Bt; omega), (h2.turn g2).turn g3⟩, h.small⟩
theorem Pm_done {vl : Value} (h : Pm p q vp i S l w0 w) (hi : i < 30) (hl : SliceOf 3 rOp w vl l) (hw : SmallL l) :
    Calls Try.prog 19 #[vp, vl] w fun e w' => ∃ v', e = .returned v' ∧ Pl p q v' (i + 1) (doneP S l) w0 w' ∧ Below w.heap.size w w' := by
  obtain ⟨M, c, N, o, hN, h1, h2⟩ := h.ex
  refine (Done_t vp vl h2 h1.fs.own hl h.small (by omega) hw).mono ?_
  rintro e w' ⟨v', he, g1, g2⟩
  exact ⟨v', he, ⟨⟨M, c, N, o, hN, h1.ext g2, g1⟩, h.small.done hw⟩, g2⟩
theorem Pl_compact (h : Pl p q vp i S w0 w) (hi : i < 30) :
    Calls Try.prog 16 #[.pointer (some ⟨q, 0, none⟩)] w fun e w' => e = .returned (.int .i64 0) ∧ Pc p q vp i S w0 w' := by
  obtain ⟨M, c, N, o, hN, h1, h2⟩ := h.ex
  have hwl := h.small.whole (by omega)
  refine (Compact_up h1 (by decide) (by omega) (by omega) (by omega)).mono ?_
  rintro e w' ⟨he, M', o1, o', w1, g1, g2, g3⟩
  exact ⟨he, ⟨M', _, _, o', by omega, g1.more (by omega) (Nat.le_refl _) (by omega) (by omega), (h2.turn g2).turn g3⟩, h.small⟩
theorem Pc_bytes (h : Pc p q vp i S w0 w) (hi : i < 30) :
    Calls Try.prog 17 #[.pointer (some ⟨q, 0, none⟩)] w fun e w' => ∃ m : Nat, e = .returned (.int .i64 (m : Int)) ∧ m ≤ 13 + (batchB (opsOf S)).length ∧ Below w.heap.size w w' := by
  obtain ⟨M, c, N, o, hN, h1, h2⟩ := h.ex
  have hf := h.small.fit (by omega)
  have hwl := h.small.whole (by omega)
  have hr := h1.up.read
  have h3 := whole_ops hf
  have h4 := batch_len (l := opsOf S) ⟨by rw [opsOf_length]; have := hf.len; omega, opsOf_ok hf⟩
  exact (Bytes_up h1 (by omega) (by omega)).mono fun _ _ ⟨g1, g2⟩ => ⟨_, g1, by omega, g2⟩
/-- Bytes and total tell the same number -/
theorem Pl_bytes (h : Pl p q vp i S w0 w) (hi : i ≤ 30) : ∃ m : Nat, (∀ w', Below w.heap.size w w' → Calls Try.prog 17 #[.pointer (some ⟨q, 0, none⟩)] w' fun e w'' => e = .returned (.int .i64 (m : Int)) ∧ Below w'.heap.size w' w'') ∧
    (∀ w', Below w.heap.size w w' → Calls Try.prog 21 #[.pointer (some ⟨p, 0, none⟩)] w' fun e w'' => e = .returned (.int .i64 (m : Int)) ∧ Below w'.heap.size w' w'') := by
  obtain ⟨M, c, N, o, hN, h1, h2⟩ := h.ex
  have hB : Bt i ≤ 100000000 := by unfold Bt; omega
  exact ⟨_, fun w' hb => Bytes_up (h1.ext hb) hB (by omega), fun w' hb => total_any (h1.ext hb).up hB (by omega)⟩
theorem Pl_held (h : Pl p q vp i S w0 w) :
    Calls Try.prog 20 #[.pointer (some ⟨q, 0, none⟩), vp] w fun e w' => e = .returned (.bool true) ∧ Below w.heap.size w w' := by
  obtain ⟨M, c, N, o, hN, h1, h2⟩ := h.ex
  exact held_any h1.kv vp h2.slice
/-- pairs in new memory -/
theorem Pl_pairs (h : Pl p q vp i S w0 w) :
    Calls Try.prog 22 #[.pointer (some ⟨q, 0, none⟩)] w fun e w' => ∃ v, e = .returned v ∧ PairsO w.heap.size w' v S ∧ Below w.heap.size w w' := by
  obtain ⟨M, c, N, o, hN, h1, h2⟩ := h.ex
  exact Pairs_any h1.kv
/-- and opened again -/
theorem Pl_again (h : Pl p q vp i S w0 w) (hi : i ≤ 30) :
    Calls Try.prog 11 #[.pointer (some ⟨p, 0, none⟩)] w fun e w' => ∃ q2, e = .returned (.tuple #[.pointer (some ⟨q2, 0, none⟩), .int .i64 0]) ∧ Pl p q vp i S w0 w' ∧ ∃ c N o', KvAt 2 q2 p S c false o' N w' := by
  obtain ⟨M, c, N, o, hN, h1, h2⟩ := h.ex
  refine (Open_up (j := 2) h1.up h1.kv.fit (by decide) (by unfold Bt; omega) (by omega) (by omega)).mono ?_
  rintro e w' ⟨q2, he, clean, o', g1, g2, _⟩
  exact ⟨q2, he, ⟨⟨M, c, N, o', hN, ⟨g1.fs, h1.kv.turn g2 (by decide), h1.st, h1.dead, h1.op, h1.only⟩, h2.turn g2⟩, h.small⟩, _, _, o', g1.kv⟩
end
/-- a row of pairs in new memory, whatever bytes their values have -/
structure RowM (base : Nat) (w : World) (v : Value) (n : Nat) : Prop where
  ex : ∃ xs, w.ownsRow base 51 2 v n xs ∧ ∀ i, i < n → ∃ kv vv, chunk xs 2 i = [kv, vv] ∧ ∃ l : List UInt8, w.ownsRow base 5 1 vv l.length (bv l)
theorem PairsO.rowM {base : Nat} {w : World} {v : Value} {S : PLB} (h : PairsO base w v S) : RowM base w v S.length := by
  obtain ⟨xs, h1, h2⟩ := h
  exact ⟨xs, h1, fun i hi => by obtain ⟨kv, vv, e, _, g⟩ := h2.2 i hi; exact ⟨kv, vv, e, _, g⟩⟩
theorem RowM.at_ {base n c : Nat} {w : World} {A : Option Addr} (h : RowM base w (.slice A n c) n) {k : Nat} (hk : k < n) :
    ∃ (ad : Addr) (B : Option Addr) (m c2 : Nat) (l : List UInt8), A = some ad ∧ w.cell? ⟨(ad.add (k * 2)).block, (ad.add (k * 2)).off + 1, none⟩ = some (.slice B m c2) ∧ l.length = m ∧ w.ownsRow base 5 1 (.slice B m c2) m (bv l) := by
  obtain ⟨xs, h1, h2⟩ := h.ex
  obtain ⟨kv, vv, e, l, hl⟩ := h2 k hk
  have hg : ∀ j, j < 2 → xs[k * 2 + j]? = (chunk xs 2 k)[j]? := fun j hj => by
    unfold chunk
    rw [List.getElem?_take, if_pos hj, List.getElem?_drop]
  obtain ⟨ad, rfl, c1⟩ := Rd.own h1 (k * 2 + 1) vv (by rw [hg 1 (by omega), e]; rfl)
  rw [add_beside _ _ (by omega)] at c1
  obtain ⟨B, c2, rfl⟩ := own_sl hl
  exact ⟨ad, B, l.length, c2, l, rfl, c1, rfl, hl⟩
theorem RowM.ne {base n g : Nat} {w : World} {v : Value} {cur : Array Value} (h : RowM base w v n) (hx : Blk w g 5 cur) : v.ownBlock ≠ some g := fun hb => by
  obtain ⟨xs, h1, _⟩ := h.ex
  rcases h1.2 with ⟨e1, _⟩ | ⟨g', cap, cur', e1, _, e3, _⟩
  · rw [e1] at hb; cases hb
  · rw [e1] at hb
    injection hb with hb
    simp only at hb
    subst hb
    have h3 : some _ = some _ := e3.symm.trans hx
    injection h3 with h3
    injection h3 with _ h3 _
    exact absurd h3 (by decide)
theorem cell_poke {n c g : Nat} {w w' : World} {ad a : Addr} {u : Value} (h : (Value.slice (some ad) n c).ownBlock ≠ some g) (ha : a.block = ad.block) (hg : w.grownBy w' (some g)) (hc : w.cell? a = some u) : w'.cell? a = some u := by
  refine (World.cell?_of_block (hg.block _ (World.block_lt_of_cell? w _ hc) fun e => ?_)).trans hc
  injection e with e
  exact h (by rw [← e, ha]; rfl)
/-- a byte of one of them is another one -/
theorem RowM.poke {base n g j : Nat} {w w' : World} {v : Value} {cur : Array Value} {x : UInt8} (h : RowM base w v n) (hx : Blk w g 5 cur) (hx' : Blk w' g 5 (cur.setIfInBounds j (.int .u8 (x.toNat : Int)))) (hg : w.grownBy w' (some g)) : RowM base w' v n := by
  obtain ⟨xs, h1, h2⟩ := h.ex
  refine ⟨xs, own_same h1 fun b hb => hg.block b (h1.lt b hb).2 fun e => ?_, fun i hi => ?_⟩
  · injection e with e
    exact h.ne hx (by rw [hb, e])
  · obtain ⟨kv, vv, e, l, hl⟩ := h2 i hi
    refine ⟨kv, vv, e, ?_⟩
    by_cases hb : vv.ownBlock = some g
    · obtain ⟨B, c2, rfl⟩ := own_sl hl
      rcases hl.2 with ⟨e1, e2⟩ | ⟨g', cap, cur', e1, hbg, e3, hc, hm, hs, ht⟩
      · injection e1 with e1
        rw [e1] at hb
        cases hb
      · injection e1 with e1 e4 e5
        subst e1 e5
        injection hb with hb
        simp only at hb
        subst hb
        have h3 : some _ = some _ := e3.symm.trans hx
        injection h3 with h3
        injection h3 with h3 _ _
        subst h3
        refine ⟨l.set j x, by rw [bv_length, List.length_set]; omega, .inr ⟨_, c2, _, by rw [List.length_set], hbg, hx', by rw [List.length_set]; exact hc, hm, by rw [Array.size_setIfInBounds]; exact hs, ?_⟩⟩
        rw [Array.toList_setIfInBounds, List.take_set, List.length_set, ht, bv_set]
    · exact ⟨l, own_same hl fun b hb' => hg.block b (hl.lt b hb').2 fun e => hb (by rw [hb', e])⟩
end Go.Mun
