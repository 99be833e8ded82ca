/- How many bytes there may be behind a Compact; whether a KV holds pairs. -/
import Derived.Test.YthjnebngdcdicaaKvSame
namespace Go.Mun
open Go Go.RowKit Go.Proofs Go.Maps

/-- what each operation of the region writes -/
def SBd (q j : Nat) (ad : Addr) (n c : Nat) (vo kv vv : Value) : Nat → Value → World → Prop
  | 0, v, _ => v = vo
  | 1, v, _ => v = .slice (some ad) n c
  | 2, v, _ => v = .int .i64 (j : Nat)
  | 3, v, _ => v = .pointer (some (ad.add (j * 2)))
  | 4, v, _ => v = .pointer (some (ad.add (j * 2)))
  | 5, v, _ => v = kv
  | 6, v, _ => v = .slice (some ad) n c
  | 7, v, _ => v = .int .i64 (j : Nat)
  | 8, v, _ => v = .pointer (some (ad.add (j * 2)))
  | 9, v, _ => v = .pointer (some ⟨(ad.add (j * 2)).block, (ad.add (j * 2)).off + 1, none⟩)
  | 10, v, _ => v = vv
  | 11, v, _ => v = .agg #[.bool false, kv, vv]
  | 12, v, w => ∃ h, v = .slice (some ⟨h, 0, none⟩) 1 1 ∧ q ≤ h ∧ Blk w h 32 #[.bool false, kv, vv]
  | 13, _, _ => True
  | _, _, _ => True
theorem SBd_stays (q j : Nat) (ad : Addr) (n c : Nat) (vo kv vv : Value) (hvo : ∀ b, vo.ownBlock = some b → b < q) : ∀ i v (wa wb : World), wa.grownBy wb vo.ownBlock → SBd q j ad n c vo kv vv i v wa → SBd q j ad n c vo kv vv i v wb
  | 0, _, _, _, _, h => h
  | 1, _, _, _, _, h => h
  | 2, _, _, _, _, h => h
  | 3, _, _, _, _, h => h
  | 4, _, _, _, _, h => h
  | 5, _, _, _, _, h => h
  | 6, _, _, _, _, h => h
  | 7, _, _, _, _, h => h
  | 8, _, _, _, _, h => h
  | 9, _, _, _, _, h => h
  | 10, _, _, _, _, h => h
  | 11, _, _, _, _, h => h
  | 12, _, _, _, hb, ⟨hh, e, hq, hx⟩ => ⟨hh, e, hq, hx.grown hb (fun e => by have := hvo hh e.symm; omega)⟩
  | 13, _, _, _, _, h => h
  | _ + 14, _, _, _, _, h => h
/-- how far the region has come -/
structure JBd (q B j : Nat) (vo : Value) (xs cs : List Value) (L : Nat → Bool) (V : Nat → Value) (w : World) : Prop where
  row0 : L 13 = false → w.ownsRow B 32 3 vo j xs
  row1 : L 13 = true → w.ownsRow B 32 3 (V 13) (j + 1) (xs ++ cs)
  row2 : L 14 = true → V 14 = V 13
  low : q ≤ w.heap.size
section
variable {q B j : Nat} {vo : Value} {xs cs : List Value} {L : Nat → Bool} {V : Nat → Value} {w w' : World}
theorem JBd.far (h : JBd q B j vo xs cs L V w) {k : Nat} {v : Value} (h13 : (13 : Nat) ≠ k) (h14 : (14 : Nat) ≠ k) : JBd q B j vo xs cs (updL L k) (upd V k v) w :=
  ⟨fun e => h.row0 (by rwa [updL_ne h13] at e), fun e => by rw [upd_ne h13]; exact h.row1 (by rwa [updL_ne h13] at e), fun e => by rw [upd_ne h13, upd_ne h14]; exact h.row2 (by rwa [updL_ne h14] at e), h.low⟩
theorem JBd.ext (h : JBd q B j vo xs cs L V w) (hb : Below w.heap.size w w') : JBd q B j vo xs cs L V w' :=
  ⟨fun e => own_ext (h.row0 e) hb, fun e => own_ext (h.row1 e) hb, h.row2, Nat.le_trans h.low hb.size⟩
theorem JBd.app (h : JBd q B j vo xs cs L V w) (h14 : L 14 = false) {v : Value} {r : Option Nat} (ho : w'.ownsRow B 32 3 v (j + 1) (xs ++ cs)) (hg : w.grownBy w' r) : JBd q B j vo xs cs (updL L 13) (upd V 13 v) w' := by
  refine ⟨fun e => ?_, fun _ => by rw [upd_same]; exact ho, fun e => ?_, Nat.le_trans h.low hg.size⟩
  · rw [updL_same] at e; cases e
  · rw [updL_ne (by decide), h14] at e; cases e
theorem JBd.asn (h : JBd q B j vo xs cs L V w) (h13 : L 13 = true) : JBd q B j vo xs cs (updL L 14) (upd V 14 (V 13)) w := by
  refine ⟨fun e => ?_, fun _ => ?_, fun _ => ?_, h.low⟩
  · rw [updL_ne (by decide), h13] at e; cases e
  · rw [upd_ne (by decide)]; exact h.row1 h13
  · rw [upd_same, upd_ne (by decide)]
end
set_option maxRecDepth 100000 in
set_option maxHeartbeats 4000000 in
theorem bound_any (v : Value) (P : PLB) (w : World) (h : SliceOf 2 rPair w v P) (hf : FitS P) :
    Calls Try.prog 18 #[v] w fun e w' => e = .returned (.int .i64 ((4096 + 2 * (batchB (opsOf P)).length : Nat) : Int)) ∧ Below w.heap.size w w' := by
  obtain ⟨A, n, c, xs, rfl, g1, g2, g3, g4, g5, g6⟩ := h
  unfold maxLen at g4
  have hTO := opsTy
  have hn : n ≤ 1900 := by have := hf.len; omega
  have hwide : WideL (opsOf P) := ⟨by rw [opsOf_length]; have := hf.len; omega, opsOf_ok hf⟩
  have HP := Lib.hid (fun k (hk : k < n) => pair_at g5 g1 g2 g6 hk)
  have hbl := batchB_bdW hwide
  have CB := Lib.hid (fun v w' (h : SliceOf 3 rOp w' v (opsOf P)) => RefBatch_okW v (opsOf P) w' h hwide)
  obtain ⟨bl, hbl0⟩ : ∃ x, x = (batchB (opsOf P)).length := ⟨_, rfl⟩
  rw [← hbl0] at hbl CB ⊢
  have HBL := Lib.hid hbl0
  have HL := Lib.hid g1
  clear g1 g2 g5 g6 hf hwide hbl0
  go_enter Try.func18, Try.ntmps18
  go_wp2
  go_loopw [3, 4] (fun vo iv wr => ∃ (j : Nat) (co : List Value), j ≤ n ∧ iv = .int .i64 j ∧ wr.ownsRow w.heap.size 32 3 vo j co ∧ RowC 3 rOp w co ((opsOf P).take j) ∧ Below w.heap.size w wr) (fun _ iv _ => n - (RowKit.intOf iv).toNat)
  case atStart => exact ⟨0, [], Nat.zero_le _, rfl, World.ownsRow_nil _ _ _ _, RowC.nil _ _ _, Below.refl _ _⟩
  case round =>
    obtain ⟨j, co, hj, rfl, hco, hrc, hBr⟩ := hrel
    by_cases hlt : j < n
    · obtain ⟨ad, p, kv, vv, rfl, c0, c1, hp, bk, bv'⟩ := HP.out j hlt
      obtain ⟨AK, nk, cK, rfl, _⟩ := id bk
      obtain ⟨AV, nv, cV, rfl, _⟩ := id bv'
      have HRC := Lib.hid hrc
      have HKV := Lib.hid (And.intro bk bv')
      have HTK := Lib.hid (show (opsOf P).take (j + 1) = (opsOf P).take j ++ [opOf p] from by
        have h1 : (opsOf P)[j]? = some (opOf p) := by unfold opsOf; rw [List.getElem?_map, hp]; rfl
        obtain ⟨h2, h3⟩ := List.getElem?_eq_some_iff.1 h1
        rw [List.take_succ_eq_append_getElem h2, h3])
      clear hrc bk bv' hp
      obtain ⟨vo, hvo⟩ : ∃ x, x = u3 := ⟨_, rfl⟩
      subst hvo
      have f1 : decide ((j : Int) < n) = true := decide_eq_true (by omega)
      have z1 : (0 : Int) ≤ j := by omega
      have z2 : (j : Int) < n := by omega
      obtain ⟨q, hq⟩ : ∃ q, q = wr.heap.size := ⟨_, rfl⟩
      have HWQ := Lib.hid (show w.heap.size ≤ q by rw [hq]; exact hBr.size)
      have HVO := Lib.hid (fun b (e : vo.ownBlock = some b) => show b < q by rw [hq]; exact (hco.lt b e).2)
      have HBW := Lib.hid (fun (w' : World) (hb : wr.drew.grownBy w' vo.ownBlock) => show Below w.heap.size w w' from hBr.trans (grown_low (show wr.grownBy w' vo.ownBlock from ⟨hb.os, hb.tape, hb.output, hb.size, hb.block⟩) (fun x e => (hco.lt x e).1) hBr.size))
      have HC0 := Lib.hid (fun (w' : World) (hb : wr.drew.grownBy w' vo.ownBlock) => cell_ext (HBW.out _ hb) c0)
      have HC1 := Lib.hid (fun (w' : World) (hb : wr.drew.grownBy w' vo.ownBlock) => cell_ext (HBW.out _ hb) c1)
      have hrn : wr.drew.ownsRow w.heap.size 32 3 vo j co := hco
      have hq0 : q ≤ wr.drew.heap.size := by rw [hq]; exact Nat.le_refl _
      clear hq c0 c1
      go_upto_region 5 with (fail)
      refine wp_region_late 14 0 (by kernel_rfl) (by kernel_rfl) (by kernel_rfl) (fun w w' => w.grownBy w' vo.ownBlock) (fun _ => World.grownBy.refl _ _) (fun _ _ _ h k => h.trans k) (SBd q j ad n c vo (.slice AK nk cK) (.slice AV nv cV)) (SBd_stays _ _ _ _ _ _ _ _ HVO.out) (JBd q w.heap.size j vo co [.bool false, .slice AK nk cK, .slice AV nv cV]) ⟨fun _ => hrn, fun e => (by cases e), fun e => (by cases e), hq0⟩ ?_ ?_
      · simp only [PhStep]
        refine ⟨?_, ?_, ?_, ?_, ?_, ?_, ?_, ?_, ?_, ?_, ?_, ?_, ?_, ?_, ?_, trivial⟩
        · intro L V w' hb hj hl hdo hcl hd
          clear hdo hcl
          clear hd
          refine ⟨?_⟩
          simp only [fillX, ne_eq, Nat.reduceEqDiff, not_false_eq_true, not_true_eq_false, if_true, if_false]
          go_wp2
          exact ⟨⟨rfl, rfl, World.grownBy.refl _ _, rfl⟩, hj.far (by decide) (by decide)⟩
        · intro L V w' hb hj hl hdo hcl hd
          clear hdo hcl
          clear hd
          refine ⟨?_⟩
          simp only [fillX, ne_eq, Nat.reduceEqDiff, not_false_eq_true, not_true_eq_false, if_true, if_false]
          go_wp2
          exact ⟨⟨rfl, rfl, World.grownBy.refl _ _, rfl⟩, hj.far (by decide) (by decide)⟩
        · intro L V w' hb hj hl hdo hcl hd
          clear hdo hcl
          clear hd
          refine ⟨?_⟩
          simp only [fillX, ne_eq, Nat.reduceEqDiff, not_false_eq_true, not_true_eq_false, if_true, if_false]
          go_wp2
          exact ⟨⟨rfl, rfl, World.grownBy.refl _ _, rfl⟩, hj.far (by decide) (by decide)⟩
        · intro L V w' hb hj hl hdo hcl hd
          clear hdo hcl
          simp only [DepFacts, SBd, Region.binds, forall_const, and_true] at hd
          refine ⟨?_⟩
          simp only [fillX, ne_eq, Nat.reduceEqDiff, not_false_eq_true, not_true_eq_false, if_true, if_false, hd]
          clear hd
          go_wp2
          exact ⟨⟨rfl, rfl, World.grownBy.refl _ _, rfl⟩, hj.far (by decide) (by decide)⟩
        · intro L V w' hb hj hl hdo hcl hd
          clear hdo hcl
          simp only [DepFacts, SBd, Region.binds, forall_const, and_true] at hd
          refine ⟨?_⟩
          simp only [fillX, ne_eq, Nat.reduceEqDiff, not_false_eq_true, not_true_eq_false, if_true, if_false, hd]
          clear hd
          go_wp2
          exact ⟨⟨rfl, rfl, World.grownBy.refl _ _, rfl⟩, hj.far (by decide) (by decide)⟩
        · intro L V w' hb hj hl hdo hcl hd
          have hc0 := HC0.out _ hb
          clear hdo hcl
          simp only [DepFacts, SBd, Region.binds, forall_const, and_true] at hd
          refine ⟨?_⟩
          simp only [fillX, ne_eq, Nat.reduceEqDiff, not_false_eq_true, not_true_eq_false, if_true, if_false, hd]
          clear hd
          go_wp2
          exact ⟨⟨rfl, rfl, World.grownBy.refl _ _, rfl⟩, hj.far (by decide) (by decide)⟩
        · intro L V w' hb hj hl hdo hcl hd
          clear hdo hcl
          clear hd
          refine ⟨?_⟩
          simp only [fillX, ne_eq, Nat.reduceEqDiff, not_false_eq_true, not_true_eq_false, if_true, if_false]
          go_wp2
          exact ⟨⟨rfl, rfl, World.grownBy.refl _ _, rfl⟩, hj.far (by decide) (by decide)⟩
        · intro L V w' hb hj hl hdo hcl hd
          clear hdo hcl
          clear hd
          refine ⟨?_⟩
          simp only [fillX, ne_eq, Nat.reduceEqDiff, not_false_eq_true, not_true_eq_false, if_true, if_false]
          go_wp2
          exact ⟨⟨rfl, rfl, World.grownBy.refl _ _, rfl⟩, hj.far (by decide) (by decide)⟩
        · intro L V w' hb hj hl hdo hcl hd
          clear hdo hcl
          simp only [DepFacts, SBd, Region.binds, forall_const, and_true] at hd
          refine ⟨?_⟩
          simp only [fillX, ne_eq, Nat.reduceEqDiff, not_false_eq_true, not_true_eq_false, if_true, if_false, hd]
          clear hd
          go_wp2
          exact ⟨⟨rfl, rfl, World.grownBy.refl _ _, rfl⟩, hj.far (by decide) (by decide)⟩
        · intro L V w' hb hj hl hdo hcl hd
          clear hdo hcl
          simp only [DepFacts, SBd, Region.binds, forall_const, and_true] at hd
          refine ⟨?_⟩
          simp only [fillX, ne_eq, Nat.reduceEqDiff, not_false_eq_true, not_true_eq_false, if_true, if_false, hd]
          clear hd
          go_wp2
          exact ⟨⟨rfl, rfl, World.grownBy.refl _ _, rfl⟩, hj.far (by decide) (by decide)⟩
        · intro L V w' hb hj hl hdo hcl hd
          have hc1 := HC1.out _ hb
          clear hdo hcl
          simp only [DepFacts, SBd, Region.binds, forall_const, and_true] at hd
          refine ⟨?_⟩
          simp only [fillX, ne_eq, Nat.reduceEqDiff, not_false_eq_true, not_true_eq_false, if_true, if_false, hd]
          clear hd
          go_wp2
          exact ⟨⟨rfl, rfl, World.grownBy.refl _ _, rfl⟩, hj.far (by decide) (by decide)⟩
        · intro L V w' hb hj hl hdo hcl hd
          clear hdo hcl
          simp only [DepFacts, SBd, Region.binds, forall_const, and_true] at hd
          refine ⟨?_⟩
          simp only [fillX, ne_eq, Nat.reduceEqDiff, not_false_eq_true, not_true_eq_false, if_true, if_false, hd]
          clear hd
          go_wp2
          exact ⟨⟨rfl, rfl, World.grownBy.refl _ _, rfl⟩, hj.far (by decide) (by decide)⟩
        · intro L V w' hb hj hl hdo hcl hd
          have hq := hj.low
          clear hdo hcl
          simp only [DepFacts, SBd, Region.binds, forall_const, and_true] at hd
          refine ⟨?_⟩
          simp only [fillX, ne_eq, Nat.reduceEqDiff, not_false_eq_true, not_true_eq_false, if_true, if_false, hd]
          clear hd
          simp only [Act.put, List.setIfInBounds_toArray, List.set_cons_zero, List.set_cons_succ]
          go_wp2_with (first | ((with_reducible refine gd_rowC ?_); refine wpList_row_one rfl (.tmp 24) rfl hTO (by decide) (cs := #[.bool false, .slice AK nk cK, .slice AV nv cV]) rfl rfl ?_; intro w3 hx3 hb3 hl3) | (refine wpList_row_one rfl (.tmp 24) rfl hTO (by decide) (cs := #[.bool false, .slice AK nk cK, .slice AV nv cV]) rfl rfl ?_; intro w3 hx3 hb3 hl3) | fail)
          exact ⟨⟨rfl, rfl, ⟨hb3.os, hb3.tape, hb3.output, hb3.size, fun k hk _ => hb3.block k hk⟩, _, rfl, hq, hx3⟩, (hj.ext hb3).far (by decide) (by decide)⟩
        · intro L V w' hb hj hl hdo hcl hd
          have hr0 := hj.row0 hl
          have hq := hj.low
          have h14 : L 14 = false := Bool.eq_false_iff.2 fun e => by have := hcl 14 13 (by kernel_rfl) e; rw [this] at hl; cases hl
          clear hdo hcl
          simp only [DepFacts, SBd, Region.binds, forall_const, and_true] at hd
          obtain ⟨d0, hh, e6, _, hx6⟩ := hd
          refine ⟨?_⟩
          simp only [fillX, ne_eq, Nat.reduceEqDiff, not_false_eq_true, not_true_eq_false, if_true, if_false, d0, e6]
          clear d0 e6
          simp only [Act.put, List.setIfInBounds_toArray, List.set_cons_zero, List.set_cons_succ]
          go_wp2_with (first | (at_builtin; refine wpList_append_rd _ rfl (.tmp 13) (.tmp 25) _ rfl w.heap.size _ _ 3 56 hTO _ _ _ rfl hr0 (some ⟨hh, 0, none⟩) 1 1 [.bool false, .slice AK nk cK, .slice AV nv cV] rfl rfl hx6.rd (by intro u hu; simp only [List.mem_cons, List.not_mem_nil, or_false] at hu; rcases hu with rfl | rfl | rfl <;> rfl) (by unfold maxLen; omega) (by omega) (Nat.le_trans HWQ.out hq) ?_; intro v3 w3 ho3 hg3 hat3) | fail)
          exact ⟨⟨rfl, rfl, hg3, trivial⟩, hj.app h14 ho3 hg3⟩
        · intro L V w' hb hj hl hdo hcl hd
          have h13 : L 13 = true := hdo 13 (by kernel_rfl)
          clear hdo hcl hd
          refine ⟨?_⟩
          simp only [fillX, ne_eq, Nat.reduceEqDiff, not_false_eq_true, not_true_eq_false, if_true, if_false]
          go_wp2
          exact ⟨⟨rfl, rfl, World.grownBy.refl _ _, trivial⟩, hj.asn h13⟩
      · intro Lx V w3 hL hb3 hs hj3
        have h3 := hj3.row1 (hL 13 (by decide))
        have e14 := hj3.row2 (hL 14 (by decide))
        clear hs hj3 hL
        simp only [fill, e14]
        have B3 := HBW.out _ hb3
        obtain ⟨vx, hvx⟩ : ∃ x, x = V 13 := ⟨_, rfl⟩
        rw [← hvx] at h3 ⊢
        clear hvx e14
        try simp only [Exit.then]
        try go_simp
        go_wp2
        go_roundw
        case rel => exact ⟨j + 1, _, by omega, by go_num, h3, by rw [HTK.out]; exact HRC.out.more rfl (fun _ => ⟨_, _, rfl, rfl, rfl, HKV.out.1, HKV.out.2⟩), B3⟩
        case measure => simp [RowKit.intOf]; omega
    · obtain rfl : j = n := by omega
      have f1 : decide ((j : Int) < (j : Int)) = false := decide_eq_false (by omega)
      rw [List.take_of_length_le (by rw [opsOf_length, HL.out]; exact Nat.le_refl _)] at hrc
      have hsl : SliceOf 3 rOp wr u3 (opsOf P) := slice_of_own hco (by rw [opsOf_length, HL.out]) (hrc.ext rOp_stays hBr).2
      have CB2 := Lib.hid (CB.out _ _ hsl)
      clear hsl hco hrc
      go_wp2_with (first
        | (go_at_call 37; refine CB2.out.mono ?_; rintro e w4 ⟨v4, rfl, ho4, hb4⟩; obtain ⟨A4, c4, rfl⟩ := row_slC ho4)
        | fail)
      go_ret
      exact ⟨by congr 2, below_step hBr hb4⟩
end Go.Mun
