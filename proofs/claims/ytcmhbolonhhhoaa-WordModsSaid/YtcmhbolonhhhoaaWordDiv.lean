/- The walk of word.divide. -/
import Derived.Test.YtcmhbolonhhhoaaWordBit
import Derived.Test.YtcmhbolonhhhoaaDivPlain
import Derived.Test.YtcmhbolonhhhoaaRegion
namespace Go.Mun
open Go Go.RowKit Go.Proofs

theorem results_blk22 {P : Program} {fn : Func} {w : World} {g h : Nat} {t t' ty ty' : TypeId} {cs cs' tmps : Array Value} {p q : Tmp} (hf : fn.results = #[.cell p ty, .cell q ty']) (hT : AggTy P ty cs.size) (hb : Blk w g t cs) (hT' : AggTy P ty' cs'.size) (hb' : Blk w h t' cs')
    (hp : tmps.getD p undef = .pointer (some ⟨g, 0, none⟩)) (hq : tmps.getD q undef = .pointer (some ⟨h, 0, none⟩)) : (results fn tmps).run P w = .ok (.tuple #[.agg cs, .agg cs']) w := by
  have hp' : tmps[p]?.getD undef = .pointer (some ⟨g, 0, none⟩) := by simpa using hp
  have hq' : tmps[q]?.getD undef = .pointer (some ⟨h, 0, none⟩) := by simpa using hq
  simp [results, hf, hp', hq', asAddr, run_loadVar_blk hT hb, run_loadVar_blk hT' hb']
/-- what stays while the results are written where they lie -/
def Lies (w0 : World) (B g h : Nat) (t : TypeId) (cq cr : Array Value) (w : World) : Prop := Blk w g t cq ∧ Blk w h t cr ∧ Below B w0 w

def SD (cq cr : Array Value) : Nat → Value → World → Prop
  | 0, v, _ => v = .agg cq
  | 1, v, _ => v = .agg cr
  | _, _, _ => True
theorem SD_stays {cq cr : Array Value} {R : World → World → Prop} : ∀ i v (wa wb : World), R wa wb → SD cq cr i v wa → SD cq cr i v wb
  | 0, _, _, _, _, h => h
  | 1, _, _, _, _, h => h
  | _ + 2, _, _, _, _, h => h
theorem limbsV_set0 (x y : Nat) (h : ∀ j, limb y j = if j = 0 then limb y 0 else limb x j) : (limbsV x).setIfInBounds 0 (.int .u64 (limb y 0 : Nat)) = limbsV y := by
  rw [limbsV_tab, limbsV_tab, tab_set (by decide)]
  exact tab_congr fun j _ => (h j).symm
theorem limbsV_setbit (x y a v : Nat) (ha : a < 4) (h : ∀ j, limb y j = if j = a then v else limb x j) : (limbsV x).setIfInBounds a (.int .u64 (v : Nat)) = limbsV y := by
  rw [limbsV_tab, limbsV_tab, tab_set ha]
  exact tab_congr fun j _ => (h j).symm

set_option maxRecDepth 100000 in
set_option maxHeartbeats 4000000 in
theorem divide_any (N m L c : Nat) (ad : Addr) (w : World) (hm0 : 0 < m) (hm : m < 2 ^ 256) (hL : 1 ≤ L) (hL8 : L ≤ 8) (hNL : N < 2 ^ (64 * L)) (hl : Rd w (some ad) (tab .u64 L (limb N)).toList) :
    Calls Try.prog 52 #[.slice (some ad) L c, .agg (limbsV m)] w fun e w' => e = .returned (.tuple #[.agg (limbsV (N / m % 2 ^ 256)), .agg (limbsV (N % m))]) ∧ Below w.heap.size w w' := by
  have hN := numTy
  have zN := zNum
  have HSm := Lib.hid (limbsV_size m)
  have HM0 := Lib.hid hm0
  have HM := Lib.hid hm
  have HNL := Lib.hid hNL
  have HL := Lib.hid hl
  have HCmp := Lib.hid (fun x w hx => cmp_any x m w hx hm)
  have HSub := Lib.hid (fun x w hx => sub_any x m w hx hm)
  clear hm0 hm hNL hl
  generalize limbsV m = cm at *
  have tok1 : True := trivial
  go_enter Try.func52, Try.ntmps52
  go_wp2_with (first
    | ((with_reducible refine gd_box ?_); refine wpList_box_agg rfl _ (.tmp 1) rfl rfl ?_; intro w1 hx1 hb1 hl1)
    | ((with_reducible refine gd_alloc ?_); have _t := tok1; refine wpList_alloc_blk rfl 39 rfl zN ?_; clear tok1; intro w2 hx2 hb2 hl2)
    | ((with_reducible refine gd_alloc ?_); refine wpList_alloc_blk rfl 39 rfl zN ?_; intro w3 hx3 hb3 hl3)
    | fail)
  have hx1' := (hx1.ext hb2).ext hb3
  have hx2' := hx2.ext hb3
  have hB := below_step (below_step hb1 hb2) hb3
  have hg1 := hx1.lt
  have hg2 := hx2.lt
  clear hx1 hx2 hb1 hb2 hb3
  go_loopw [6, 7] (fun i o wr => ∃ k : Nat, k ≤ 64 * L ∧ i = .int .i64 ((k : Int) - 1) ∧ Blk wr w1.heap.size 39 (limbsV (quoB N m k)) ∧ Blk wr w2.heap.size 39 (limbsV (remB N m k)) ∧ Blk wr w.heap.size 39 cm ∧ Below w.heap.size w wr) (fun i _ _ => (intOf i + 1).toNat)
  case atStart => exact ⟨64 * L, by omega, by go_num, by rw [quoB_top HNL.out]; exact hx2', by rw [remB_top HNL.out]; exact hx3, hx1', hB⟩
  case round =>
    obtain ⟨k', hk, hi, hy4, hy5, hy3, hBr⟩ := hrel
    rcases k' with _ | k
    · obtain rfl : _ = Value.int .i64 (-1) := hi.trans rfl
      clear hi
      rw [quoB_zero] at hy4
      rw [remB_zero] at hy5
      have HQ1 := Lib.hid (limbsV_one (N / m % 2 ^ 256))
      have HR1 := Lib.hid (limbsV_one (N % m))
      have HQS := Lib.hid (limbsV_size (N / m % 2 ^ 256))
      have HRS := Lib.hid (limbsV_size (N % m))
      generalize hcq : limbsV (N / m % 2 ^ 256) = cq at *
      generalize hcr : limbsV (N % m) = cr at *
      have HE := Lib.hid (And.intro hcq hcr)
      clear hcq hcr
      go_wp2
      have h0' : Lies w w.heap.size w1.heap.size w2.heap.size 39 cq cr wr.drew := ⟨hy4.drew, hy5.drew, hBr.drew⟩
      refine wp_region_loose (by kernel_rfl) (by kernel_rfl) (by kernel_rfl) rfl (fun x y => Lies w w.heap.size w1.heap.size w2.heap.size 39 cq cr x → Lies w w.heap.size w1.heap.size w2.heap.size 39 cq cr y) (fun _ h => h) (fun _ _ _ h1 h2 h => h2 (h1 h)) (SD cq cr) SD_stays ?_ ?_
      · have h0 := h0'
        refine ⟨?_, ?_, ?_, ?_, trivial⟩
        · intro V wx b hb hd hs hdef hsz
          have s4 : b.tmps[4]? = some (.pointer (some ⟨w1.heap.size, 0, none⟩)) := hs.1
          clear hs
          refine ⟨?_⟩
          refine wpList_load_blk rfl 39 (.tmp 4) rfl (hb h0).1 (by rw [HQS.out]; exact hN) (by simp [Act.eval, s4]) ?_
          refine wpList_nil ?_
          exact op_put hdef hsz (fun h => h) rfl
        · intro V wx b hb hd hs hdef hsz
          have s5 : b.tmps[5]? = some (.pointer (some ⟨w2.heap.size, 0, none⟩)) := hs.1
          clear hs
          refine ⟨?_⟩
          refine wpList_load_blk rfl 39 (.tmp 5) rfl (hb h0).2.1 (by rw [HRS.out]; exact hN) (by simp [Act.eval, s5]) ?_
          refine wpList_nil ?_
          exact op_put hdef hsz (fun h => h) rfl
        · intro V wx b hb hd hs hdef hsz
          simp only [DepFacts, SD, Region.binds, forall_const, and_true] at hd
          have d0 := hd.1
          clear hd
          have s4 : b.tmps[4]? = some (.pointer (some ⟨w1.heap.size, 0, none⟩)) := hs.1
          have s48 : b.tmps[48]? = some (V 0) := hs.2.1
          clear hs
          refine ⟨?_⟩
          refine wpList_store_all rfl 39 (.tmp 4) (.tmp 48) rfl cq (hb h0).1 (by rw [HQS.out]; exact hN) (by rw [HQS.out]) HQ1.out (by simp [Act.eval, s4]) (by simp [Act.eval, s48, d0]) ?_
          intro wy hxy hgy
          refine wpList_nil ?_
          exact ⟨rfl, hdef, fun h => ⟨hxy, h.2.1.grown hgy (by simp; omega), below_blk h.2.2 h.2.2.size hgy (by omega)⟩, trivial⟩
        · intro V wx b hb hd hs hdef hsz
          simp only [DepFacts, SD, Region.binds, forall_const, and_true] at hd
          have d0 := hd.1
          clear hd
          have s4 : b.tmps[5]? = some (.pointer (some ⟨w2.heap.size, 0, none⟩)) := hs.1
          have s48 : b.tmps[49]? = some (V 1) := hs.2.1
          clear hs
          refine ⟨?_⟩
          refine wpList_store_all rfl 39 (.tmp 5) (.tmp 49) rfl cr (hb h0).2.1 (by rw [HRS.out]; exact hN) (by rw [HRS.out]) HR1.out (by simp [Act.eval, s4]) (by simp [Act.eval, s48, d0]) ?_
          intro wy hxy hgy
          refine wpList_nil ?_
          exact ⟨rfl, hdef, fun h => ⟨h.1.grown hgy (by simp; omega), hxy, below_blk h.2.2 h.2.2.size hgy (by omega)⟩, trivial⟩
      · intro V w' hr hS
        obtain ⟨h1, h2, h3⟩ := hr h0'
        clear hS hr
        simp only [fill, Act.put]
        simp only [Exit.then]
        go_simp
        go_wp2
        exact bodyPost_ret (results_blk22 rfl (by rw [HQS.out]; exact hN) h1 (by rw [HRS.out]; exact hN) h2 rfl rfl) rfl ⟨by rw [HE.out.1, HE.out.2], h3⟩
    · obtain rfl : _ = Value.int .i64 (k : Int) := hi.trans (congrArg (Value.int .i64) (by omega))
      clear hi
      have hRl : remB N m (k + 1) < 2 ^ 256 := Nat.lt_trans (remB_lt HM0.out) HM.out
      have HShl := Lib.hid (fun w => shl_any (remB N m (k + 1)) 1 w (by decide))
      have HMin := Lib.hid (fun w => minus_any (remB N m (k + 1)) w hRl)
      rw [Nat.pow_one] at HShl
      have HS5 := Lib.hid (limbsV_size (remB N m (k + 1)))
      have HSS := Lib.hid (limbsV_size (remB N m (k + 1) * 2 % 2 ^ 256))
      have HS1 := Lib.hid (limbsV_one (remB N m (k + 1) * 2 % 2 ^ 256))
      have hc0 := limbsV_get (remB N m (k + 1) * 2 % 2 ^ 256) (show 0 < 4 by decide)
      have HC0 := Lib.hid hc0
      have HBit := Lib.hid (fun (wx : World) (hb : Below w.heap.size w wx) => (bit_any ad L c k (limb N (k / 64)) wx (by omega) (by omega) ((HL.out.ext hb).cells (k / 64) _ (by rw [Array.getElem?_toList, tab_get (by omega)])) (limb_lt _ _)).mono (R' := fun e w' => e = .returned (.int .u64 (N / 2 ^ k % 2 : Nat)) ∧ w' = wx) fun e w' h => ⟨by rw [h.1, limb_bit], h.2.symm⟩)
      have HB0 := Lib.hid (show bits .or .u64 ((limb (remB N m (k + 1) * 2 % 2 ^ 256) 0 : Nat) : Int) ((N / 2 ^ k % 2 : Nat) : Int) = ((limb (stepB N m k % 2 ^ 256) 0 : Nat) : Int) from by
        rw [u64_or_nat _ _ (limb_lt _ _) (Nat.lt_of_lt_of_le (Nat.mod_lt _ (by decide)) (by decide)), stepB_limb, if_pos rfl])
      have HT0 := Lib.hid (limbsV_set0 (remB N m (k + 1) * 2 % 2 ^ 256) (stepB N m k % 2 ^ 256) (fun j => by
        rw [stepB_limb j]
        by_cases e : j = 0
        · subst e; rw [if_pos rfl, if_pos rfl, stepB_limb 0, if_pos rfl]
        · rw [if_neg e, if_neg e]))
      have HTS := Lib.hid (limbsV_size (stepB N m k % 2 ^ 256))
      have HTl : stepB N m k % 2 ^ 256 < 2 ^ 256 := Nat.mod_lt _ (by decide)
      have HCM := Lib.hid (fun w => HCmp.out _ w HTl)
      have HSB := Lib.hid (fun w => HSub.out _ w HTl)
      have HQS := Lib.hid (limbsV_size (quoB N m k))
      have hk0 : (0 : Int) ≤ (k : Int) := by omega
      have hkL : (k : Int) < 512 := by omega
      clear HTl hRl hc0
      have tok2 : True := trivial
      by_cases c1 : 2 ^ 255 ≤ remB N m (k + 1)
      · by_cases c3 : k < 256
        · rw [decide_eq_true c1] at HMin
          have HMore := Lib.hid (stepB_over HM.out c1)
          have HRem := Lib.hid (show limbsV ((stepB N m k % 2 ^ 256 + 2 ^ 256 - m) % 2 ^ 256) = limbsV (remB N m k) from by rw [stepB_sub HM0.out HM.out HMore.out, (step_more HM0.out HMore.out).1])
          have HRS := Lib.hid (limbsV_size (remB N m k))
          have HR1 := Lib.hid (limbsV_one (remB N m k))
          rw [HRem.out] at HSB
          have hlow : (k : Int) < 256 := by omega
          have HQ := Lib.hid (@quoB_more N m k c3 (step_more HM0.out HMore.out).2)
          have HQB := Lib.hid (@quoB_bit N m k c3)
          clear c1 c3
          generalize limbsV (remB N m (k + 1)) = c5 at *
          generalize hS2 : remB N m (k + 1) * 2 % 2 ^ 256 = S2 at *
          clear hS2
          generalize limbsV S2 = cS at *
          generalize limb S2 0 = l0 at *
          generalize hT : limbsV (stepB N m k % 2 ^ 256) = cT at *
          have HTe := Lib.hid hT
          clear hT
          generalize limb (stepB N m k % 2 ^ 256) 0 = t0 at *
          generalize hrr : limbsV (remB N m k) = cr at *
          have Hrr := Lib.hid hrr
          clear hrr
          generalize hbb : N / 2 ^ k % 2 = b0 at *
          clear hbb
          go_wp2_with (first
            | ((with_reducible refine gd_load ?_); have _t := tok2; refine wpList_load_blk rfl 39 (.tmp 5) rfl hy5 (by rw [HS5.out]; exact hN) rfl ?_; clear tok2)
            | (go_at_call 48; refine (HMin.out _).mono ?_; rintro e w4 ⟨rfl, hb4⟩)
            | ((with_reducible refine gd_load ?_); refine wpList_load_blk rfl 39 (.tmp 5) rfl (hy5.ext hb4) (by rw [HS5.out]; exact hN) rfl ?_)
            | (go_at_call 50; refine (HShl.out _).mono ?_; rintro e w5 ⟨rfl, hb5⟩)
            | ((with_reducible refine gd_store ?_); refine wpList_store_all rfl 39 (.tmp 5) (.tmp 19) rfl cS ((hy5.ext hb4).ext hb5) (by rw [HSS.out]; exact hN) (by rw [HS5.out, HSS.out]) HS1.out (by rfl) (by rfl) ?_; intro w6 hx6 hg6)
            | fail)
          have hB5 := below_step (below_step hBr hb4) hb5
          have hB6 := below_blk hB5 hB5.size hg6 (by omega)
          have hq4 := ((hy4.ext hb4).ext hb5).grown hg6 (by simp; omega)
          have hq3 := ((hy3.ext hb4).ext hb5).grown hg6 (by simp; omega)
          have hcell0 := hx6.cellv HC0.out
          clear hb4 hb5 hg6 hB5 hy3 hy4 hy5 hBr
          go_still_tail 7, (by kernel_rfl)
          still_call (HBit.out _ hB6.drew)
          repeat still_step
          refine wpStill_nil ?_
          rw [HB0.out]
          refine wpList_store_cell rfl 37 (.tmp 26) (.tmp 25) rfl (w := w6.drew) hx6.drew (i := 0) (v := .int .u64 (t0 : Nat)) (by rw [HSS.out]; decide) (by kernel_rfl) rfl rfl rfl ?_
          intro w7 hx7 hg7
          rw [HT0.out] at hx7
          have hB7 := below_blk hB6.drew hB6.size hg7 (by omega)
          replace hq4 := hq4.drew.grown hg7 (by simp; omega)
          replace hq3 := hq3.drew.grown hg7 (by simp; omega)
          clear hx6 hg7 hB6 hcell0
          have tok3 : True := trivial
          go_wp2_with (first
            | ((with_reducible refine gd_load ?_); have _t := tok3; refine wpList_load_blk rfl 39 (.tmp 5) rfl hx7 (by rw [HTS.out]; exact hN) rfl ?_; clear tok3)
            | ((with_reducible refine gd_load ?_); refine wpList_load_blk rfl 39 (.tmp 3) rfl hq3 (by rw [HSm.out]; exact hN) rfl ?_)
            | (go_at_call 68; refine (HSB.out _).mono ?_; rintro e w8 ⟨rfl, hb8⟩)
            | ((with_reducible refine gd_store ?_); refine wpList_store_all rfl 39 (.tmp 5) (.tmp 36) rfl cr (hx7.ext hb8) (by rw [HRS.out]; exact hN) (by rw [HTS.out, HRS.out]) HR1.out (by rfl) (by rfl) ?_; intro w9 hx9 hg9; have hB9 := below_blk (below_step hB7 hb8) (below_step hB7 hb8).size hg9 (by omega); replace hq4 := (hq4.ext hb8).grown hg9 (by simp; omega); replace hq3 := (hq3.ext hb8).grown hg9 (by simp; omega))
            | fail)
          have q1 : (k : Int) / 64 = ((k / 64 : Nat) : Int) := by omega
          have q2 : (k : Int) % 64 = ((k % 64 : Nat) : Int) := by omega
          have q3 : (k : Int).tdiv 64 = ((k / 64 : Nat) : Int) := by rw [Int.tdiv_eq_ediv_of_nonneg (by omega)]; omega
          have q4 : (k : Int).tmod 64 = ((k % 64 : Nat) : Int) := by rw [Int.tmod_eq_emod_of_nonneg (by omega)]; omega
          have ha4 : k / 64 < 4 := by omega
          have hr64 : k % 64 < 64 := by omega
          generalize k / 64 = a at *
          generalize k % 64 = r at *
          have b1 : (0 : Int) ≤ (r : Int) := by omega
          have b2 : (r : Int) < 64 := by omega
          have b3 : (0 : Int) ≤ (a : Int) := by omega
          have b4 : (a : Int) < 4 := by omega
          have g1 : IntKind.i64.wrap (r : Int) = (r : Int) := IntWalk.i64_in _ (by omega)
          have g2 : IntKind.i64.wrap (a : Int) = (a : Int) := IntWalk.i64_in _ (by omega)
          have hcq := hq4.cellv (limbsV_get (quoB N m (k + 1)) ha4)
          have HT := Lib.hid (limbsV_setbit (quoB N m (k + 1)) (quoB N m k) a (limb (quoB N m (k + 1)) a ||| 2 ^ r) ha4 (fun j => by rw [HQ.out, HQB.out]; by_cases e : j = a <;> simp [e]))
          have HO := Lib.hid (u64_or_pow _ r (limb_lt (quoB N m (k + 1)) a) hr64)
          clear HQ HQB
          generalize limb (quoB N m (k + 1)) a = lq at *
          have HS4 := Lib.hid (limbsV_size (quoB N m (k + 1)))
          generalize limbsV (quoB N m (k + 1)) = cq at *
          go_still_tail 9, (by kernel_rfl)
          rw [HO.out]
          refine wpList_store_cell rfl 37 (.tmp 47) (.tmp 46) rfl (w := w9.drew) hq4.drew (i := a) (v := .int .u64 (lq ||| 2 ^ r : Nat)) (by rw [HS4.out]; exact ha4) (by kernel_rfl) rfl rfl rfl ?_
          intro w10 hx10 hg10
          rw [HT.out] at hx10
          have hB10 := below_blk hB9.drew hB9.size hg10 (by omega)
          have hr10 := hx9.drew.grown hg10 (by simp; omega)
          have hm10 := hq3.drew.grown hg10 (by simp; omega)
          go_wp2
          go_roundw
          case rel => exact ⟨k, by omega, rfl, hx10, by rw [Hrr.out]; exact hr10, hm10, hB10⟩
          case measure => (simp [intOf]; try omega)
        · rw [decide_eq_true c1] at HMin
          have HMore := Lib.hid (stepB_over HM.out c1)
          have HRem := Lib.hid (show limbsV ((stepB N m k % 2 ^ 256 + 2 ^ 256 - m) % 2 ^ 256) = limbsV (remB N m k) from by rw [stepB_sub HM0.out HM.out HMore.out, (step_more HM0.out HMore.out).1])
          have HRS := Lib.hid (limbsV_size (remB N m k))
          have HR1 := Lib.hid (limbsV_one (remB N m k))
          rw [HRem.out] at HSB
          have hlow : ¬ (k : Int) < 256 := by omega
          have HQ := Lib.hid (show quoB N m (k + 1) = quoB N m k from by rw [quoB_high (by omega), quoB_high (by omega)])
          clear c1 c3
          generalize limbsV (remB N m (k + 1)) = c5 at *
          generalize hS2 : remB N m (k + 1) * 2 % 2 ^ 256 = S2 at *
          clear hS2
          generalize limbsV S2 = cS at *
          generalize limb S2 0 = l0 at *
          generalize hT : limbsV (stepB N m k % 2 ^ 256) = cT at *
          have HTe := Lib.hid hT
          clear hT
          generalize limb (stepB N m k % 2 ^ 256) 0 = t0 at *
          generalize hrr : limbsV (remB N m k) = cr at *
          have Hrr := Lib.hid hrr
          clear hrr
          generalize hbb : N / 2 ^ k % 2 = b0 at *
          clear hbb
          go_wp2_with (first
            | ((with_reducible refine gd_load ?_); have _t := tok2; refine wpList_load_blk rfl 39 (.tmp 5) rfl hy5 (by rw [HS5.out]; exact hN) rfl ?_; clear tok2)
            | (go_at_call 48; refine (HMin.out _).mono ?_; rintro e w4 ⟨rfl, hb4⟩)
            | ((with_reducible refine gd_load ?_); refine wpList_load_blk rfl 39 (.tmp 5) rfl (hy5.ext hb4) (by rw [HS5.out]; exact hN) rfl ?_)
            | (go_at_call 50; refine (HShl.out _).mono ?_; rintro e w5 ⟨rfl, hb5⟩)
            | ((with_reducible refine gd_store ?_); refine wpList_store_all rfl 39 (.tmp 5) (.tmp 19) rfl cS ((hy5.ext hb4).ext hb5) (by rw [HSS.out]; exact hN) (by rw [HS5.out, HSS.out]) HS1.out (by rfl) (by rfl) ?_; intro w6 hx6 hg6)
            | fail)
          have hB5 := below_step (below_step hBr hb4) hb5
          have hB6 := below_blk hB5 hB5.size hg6 (by omega)
          have hq4 := ((hy4.ext hb4).ext hb5).grown hg6 (by simp; omega)
          have hq3 := ((hy3.ext hb4).ext hb5).grown hg6 (by simp; omega)
          have hcell0 := hx6.cellv HC0.out
          clear hb4 hb5 hg6 hB5 hy3 hy4 hy5 hBr
          go_still_tail 7, (by kernel_rfl)
          still_call (HBit.out _ hB6.drew)
          repeat still_step
          refine wpStill_nil ?_
          rw [HB0.out]
          refine wpList_store_cell rfl 37 (.tmp 26) (.tmp 25) rfl (w := w6.drew) hx6.drew (i := 0) (v := .int .u64 (t0 : Nat)) (by rw [HSS.out]; decide) (by kernel_rfl) rfl rfl rfl ?_
          intro w7 hx7 hg7
          rw [HT0.out] at hx7
          have hB7 := below_blk hB6.drew hB6.size hg7 (by omega)
          replace hq4 := hq4.drew.grown hg7 (by simp; omega)
          replace hq3 := hq3.drew.grown hg7 (by simp; omega)
          clear hx6 hg7 hB6 hcell0
          have tok3 : True := trivial
          go_wp2_with (first
            | ((with_reducible refine gd_load ?_); have _t := tok3; refine wpList_load_blk rfl 39 (.tmp 5) rfl hx7 (by rw [HTS.out]; exact hN) rfl ?_; clear tok3)
            | ((with_reducible refine gd_load ?_); refine wpList_load_blk rfl 39 (.tmp 3) rfl hq3 (by rw [HSm.out]; exact hN) rfl ?_)
            | (go_at_call 68; refine (HSB.out _).mono ?_; rintro e w8 ⟨rfl, hb8⟩)
            | ((with_reducible refine gd_store ?_); refine wpList_store_all rfl 39 (.tmp 5) (.tmp 36) rfl cr (hx7.ext hb8) (by rw [HRS.out]; exact hN) (by rw [HTS.out, HRS.out]) HR1.out (by rfl) (by rfl) ?_; intro w9 hx9 hg9; have hB9 := below_blk (below_step hB7 hb8) (below_step hB7 hb8).size hg9 (by omega); replace hq4 := (hq4.ext hb8).grown hg9 (by simp; omega); replace hq3 := (hq3.ext hb8).grown hg9 (by simp; omega))
            | fail)
          go_roundw
          case rel => exact ⟨k, by omega, rfl, by rw [← HQ.out]; exact hq4, by rw [Hrr.out]; exact hx9, hq3, hB9⟩
          case measure => (simp [intOf]; try omega)
      · by_cases c2 : m ≤ stepB N m k
        · by_cases c3 : k < 256
          · rw [decide_eq_false c1] at HMin
            have HIn := Lib.hid (@stepB_in N m k c1)
            have HMore := Lib.hid c2
            have hz : 0 ≤ cmpN (stepB N m k % 2 ^ 256) m ∧ cmpN (stepB N m k % 2 ^ 256) m ≤ 1 := by rw [HIn.out]; unfold cmpN; rw [if_neg (by omega)]; split <;> omega
            generalize cmpN (stepB N m k % 2 ^ 256) m = z at *
            have hz0 := hz.1
            have hz1 := hz.2
            clear hz
            have HRem := Lib.hid (show limbsV ((stepB N m k % 2 ^ 256 + 2 ^ 256 - m) % 2 ^ 256) = limbsV (remB N m k) from by rw [stepB_sub HM0.out HM.out HMore.out, (step_more HM0.out HMore.out).1])
            have HRS := Lib.hid (limbsV_size (remB N m k))
            have HR1 := Lib.hid (limbsV_one (remB N m k))
            rw [HRem.out] at HSB
            have hlow : (k : Int) < 256 := by omega
            have HQ := Lib.hid (@quoB_more N m k c3 (step_more HM0.out HMore.out).2)
            have HQB := Lib.hid (@quoB_bit N m k c3)
            clear c1 c2 c3
            generalize limbsV (remB N m (k + 1)) = c5 at *
            generalize hS2 : remB N m (k + 1) * 2 % 2 ^ 256 = S2 at *
            clear hS2
            generalize limbsV S2 = cS at *
            generalize limb S2 0 = l0 at *
            generalize hT : limbsV (stepB N m k % 2 ^ 256) = cT at *
            have HTe := Lib.hid hT
            clear hT
            generalize limb (stepB N m k % 2 ^ 256) 0 = t0 at *
            generalize hrr : limbsV (remB N m k) = cr at *
            have Hrr := Lib.hid hrr
            clear hrr
            generalize hbb : N / 2 ^ k % 2 = b0 at *
            clear hbb
            go_wp2_with (first
              | ((with_reducible refine gd_load ?_); have _t := tok2; refine wpList_load_blk rfl 39 (.tmp 5) rfl hy5 (by rw [HS5.out]; exact hN) rfl ?_; clear tok2)
              | (go_at_call 48; refine (HMin.out _).mono ?_; rintro e w4 ⟨rfl, hb4⟩)
              | ((with_reducible refine gd_load ?_); refine wpList_load_blk rfl 39 (.tmp 5) rfl (hy5.ext hb4) (by rw [HS5.out]; exact hN) rfl ?_)
              | (go_at_call 50; refine (HShl.out _).mono ?_; rintro e w5 ⟨rfl, hb5⟩)
              | ((with_reducible refine gd_store ?_); refine wpList_store_all rfl 39 (.tmp 5) (.tmp 19) rfl cS ((hy5.ext hb4).ext hb5) (by rw [HSS.out]; exact hN) (by rw [HS5.out, HSS.out]) HS1.out (by rfl) (by rfl) ?_; intro w6 hx6 hg6)
              | fail)
            have hB5 := below_step (below_step hBr hb4) hb5
            have hB6 := below_blk hB5 hB5.size hg6 (by omega)
            have hq4 := ((hy4.ext hb4).ext hb5).grown hg6 (by simp; omega)
            have hq3 := ((hy3.ext hb4).ext hb5).grown hg6 (by simp; omega)
            have hcell0 := hx6.cellv HC0.out
            clear hb4 hb5 hg6 hB5 hy3 hy4 hy5 hBr
            go_still_tail 7, (by kernel_rfl)
            still_call (HBit.out _ hB6.drew)
            repeat still_step
            refine wpStill_nil ?_
            rw [HB0.out]
            refine wpList_store_cell rfl 37 (.tmp 26) (.tmp 25) rfl (w := w6.drew) hx6.drew (i := 0) (v := .int .u64 (t0 : Nat)) (by rw [HSS.out]; decide) (by kernel_rfl) rfl rfl rfl ?_
            intro w7 hx7 hg7
            rw [HT0.out] at hx7
            have hB7 := below_blk hB6.drew hB6.size hg7 (by omega)
            replace hq4 := hq4.drew.grown hg7 (by simp; omega)
            replace hq3 := hq3.drew.grown hg7 (by simp; omega)
            clear hx6 hg7 hB6 hcell0
            have tok3 : True := trivial
            have tok4 : True := trivial
            go_wp2_with (first
              | ((with_reducible refine gd_load ?_); have _t := tok3; refine wpList_load_want (by rfl) 39 (.tmp 5) rfl hx7 (by rw [HTS.out]; exact hN) rfl ?_; clear tok3)
              | ((with_reducible refine gd_load ?_); have _t := tok4; refine wpList_load_want (by rfl) 39 (.tmp 3) rfl hq3 (by rw [HSm.out]; exact hN) rfl ?_; clear tok4)
              | (go_at_call 69; refine (HCM.out _).mono ?_; rintro e wc ⟨rfl, hbc⟩; replace hx7 := hx7.ext hbc; replace hq3 := hq3.ext hbc; replace hq4 := hq4.ext hbc; replace hB7 := below_step hB7 hbc)
              | ((with_reducible refine gd_load ?_); refine wpList_load_blk rfl 39 (.tmp 5) rfl hx7 (by rw [HTS.out]; exact hN) rfl ?_)
              | ((with_reducible refine gd_load ?_); refine wpList_load_blk rfl 39 (.tmp 3) rfl hq3 (by rw [HSm.out]; exact hN) rfl ?_)
              | (go_at_call 68; refine (HSB.out _).mono ?_; rintro e w8 ⟨rfl, hb8⟩)
              | ((with_reducible refine gd_store ?_); refine wpList_store_all rfl 39 (.tmp 5) (.tmp 36) rfl cr (hx7.ext hb8) (by rw [HRS.out]; exact hN) (by rw [HTS.out, HRS.out]) HR1.out (by rfl) (by rfl) ?_; intro w9 hx9 hg9; have hB9 := below_blk (below_step hB7 hb8) (below_step hB7 hb8).size hg9 (by omega); replace hq4 := (hq4.ext hb8).grown hg9 (by simp; omega); replace hq3 := (hq3.ext hb8).grown hg9 (by simp; omega))
              | fail)
            have q1 : (k : Int) / 64 = ((k / 64 : Nat) : Int) := by omega
            have q2 : (k : Int) % 64 = ((k % 64 : Nat) : Int) := by omega
            have q3 : (k : Int).tdiv 64 = ((k / 64 : Nat) : Int) := by rw [Int.tdiv_eq_ediv_of_nonneg (by omega)]; omega
            have q4 : (k : Int).tmod 64 = ((k % 64 : Nat) : Int) := by rw [Int.tmod_eq_emod_of_nonneg (by omega)]; omega
            have ha4 : k / 64 < 4 := by omega
            have hr64 : k % 64 < 64 := by omega
            generalize k / 64 = a at *
            generalize k % 64 = r at *
            have b1 : (0 : Int) ≤ (r : Int) := by omega
            have b2 : (r : Int) < 64 := by omega
            have b3 : (0 : Int) ≤ (a : Int) := by omega
            have b4 : (a : Int) < 4 := by omega
            have g1 : IntKind.i64.wrap (r : Int) = (r : Int) := IntWalk.i64_in _ (by omega)
            have g2 : IntKind.i64.wrap (a : Int) = (a : Int) := IntWalk.i64_in _ (by omega)
            have hcq := hq4.cellv (limbsV_get (quoB N m (k + 1)) ha4)
            have HT := Lib.hid (limbsV_setbit (quoB N m (k + 1)) (quoB N m k) a (limb (quoB N m (k + 1)) a ||| 2 ^ r) ha4 (fun j => by rw [HQ.out, HQB.out]; by_cases e : j = a <;> simp [e]))
            have HO := Lib.hid (u64_or_pow _ r (limb_lt (quoB N m (k + 1)) a) hr64)
            clear HQ HQB
            generalize limb (quoB N m (k + 1)) a = lq at *
            have HS4 := Lib.hid (limbsV_size (quoB N m (k + 1)))
            generalize limbsV (quoB N m (k + 1)) = cq at *
            go_still_tail 9, (by kernel_rfl)
            rw [HO.out]
            refine wpList_store_cell rfl 37 (.tmp 47) (.tmp 46) rfl (w := w9.drew) hq4.drew (i := a) (v := .int .u64 (lq ||| 2 ^ r : Nat)) (by rw [HS4.out]; exact ha4) (by kernel_rfl) rfl rfl rfl ?_
            intro w10 hx10 hg10
            rw [HT.out] at hx10
            have hB10 := below_blk hB9.drew hB9.size hg10 (by omega)
            have hr10 := hx9.drew.grown hg10 (by simp; omega)
            have hm10 := hq3.drew.grown hg10 (by simp; omega)
            go_wp2
            go_roundw
            case rel => exact ⟨k, by omega, rfl, hx10, by rw [Hrr.out]; exact hr10, hm10, hB10⟩
            case measure => (simp [intOf]; try omega)
          · rw [decide_eq_false c1] at HMin
            have HIn := Lib.hid (@stepB_in N m k c1)
            have HMore := Lib.hid c2
            have hz : 0 ≤ cmpN (stepB N m k % 2 ^ 256) m ∧ cmpN (stepB N m k % 2 ^ 256) m ≤ 1 := by rw [HIn.out]; unfold cmpN; rw [if_neg (by omega)]; split <;> omega
            generalize cmpN (stepB N m k % 2 ^ 256) m = z at *
            have hz0 := hz.1
            have hz1 := hz.2
            clear hz
            have HRem := Lib.hid (show limbsV ((stepB N m k % 2 ^ 256 + 2 ^ 256 - m) % 2 ^ 256) = limbsV (remB N m k) from by rw [stepB_sub HM0.out HM.out HMore.out, (step_more HM0.out HMore.out).1])
            have HRS := Lib.hid (limbsV_size (remB N m k))
            have HR1 := Lib.hid (limbsV_one (remB N m k))
            rw [HRem.out] at HSB
            have hlow : ¬ (k : Int) < 256 := by omega
            have HQ := Lib.hid (show quoB N m (k + 1) = quoB N m k from by rw [quoB_high (by omega), quoB_high (by omega)])
            clear c1 c2 c3
            generalize limbsV (remB N m (k + 1)) = c5 at *
            generalize hS2 : remB N m (k + 1) * 2 % 2 ^ 256 = S2 at *
            clear hS2
            generalize limbsV S2 = cS at *
            generalize limb S2 0 = l0 at *
            generalize hT : limbsV (stepB N m k % 2 ^ 256) = cT at *
            have HTe := Lib.hid hT
            clear hT
            generalize limb (stepB N m k % 2 ^ 256) 0 = t0 at *
            generalize hrr : limbsV (remB N m k) = cr at *
            have Hrr := Lib.hid hrr
            clear hrr
            generalize hbb : N / 2 ^ k % 2 = b0 at *
            clear hbb
            go_wp2_with (first
              | ((with_reducible refine gd_load ?_); have _t := tok2; refine wpList_load_blk rfl 39 (.tmp 5) rfl hy5 (by rw [HS5.out]; exact hN) rfl ?_; clear tok2)
              | (go_at_call 48; refine (HMin.out _).mono ?_; rintro e w4 ⟨rfl, hb4⟩)
              | ((with_reducible refine gd_load ?_); refine wpList_load_blk rfl 39 (.tmp 5) rfl (hy5.ext hb4) (by rw [HS5.out]; exact hN) rfl ?_)
              | (go_at_call 50; refine (HShl.out _).mono ?_; rintro e w5 ⟨rfl, hb5⟩)
              | ((with_reducible refine gd_store ?_); refine wpList_store_all rfl 39 (.tmp 5) (.tmp 19) rfl cS ((hy5.ext hb4).ext hb5) (by rw [HSS.out]; exact hN) (by rw [HS5.out, HSS.out]) HS1.out (by rfl) (by rfl) ?_; intro w6 hx6 hg6)
              | fail)
            have hB5 := below_step (below_step hBr hb4) hb5
            have hB6 := below_blk hB5 hB5.size hg6 (by omega)
            have hq4 := ((hy4.ext hb4).ext hb5).grown hg6 (by simp; omega)
            have hq3 := ((hy3.ext hb4).ext hb5).grown hg6 (by simp; omega)
            have hcell0 := hx6.cellv HC0.out
            clear hb4 hb5 hg6 hB5 hy3 hy4 hy5 hBr
            go_still_tail 7, (by kernel_rfl)
            still_call (HBit.out _ hB6.drew)
            repeat still_step
            refine wpStill_nil ?_
            rw [HB0.out]
            refine wpList_store_cell rfl 37 (.tmp 26) (.tmp 25) rfl (w := w6.drew) hx6.drew (i := 0) (v := .int .u64 (t0 : Nat)) (by rw [HSS.out]; decide) (by kernel_rfl) rfl rfl rfl ?_
            intro w7 hx7 hg7
            rw [HT0.out] at hx7
            have hB7 := below_blk hB6.drew hB6.size hg7 (by omega)
            replace hq4 := hq4.drew.grown hg7 (by simp; omega)
            replace hq3 := hq3.drew.grown hg7 (by simp; omega)
            clear hx6 hg7 hB6 hcell0
            have tok3 : True := trivial
            have tok4 : True := trivial
            go_wp2_with (first
              | ((with_reducible refine gd_load ?_); have _t := tok3; refine wpList_load_want (by rfl) 39 (.tmp 5) rfl hx7 (by rw [HTS.out]; exact hN) rfl ?_; clear tok3)
              | ((with_reducible refine gd_load ?_); have _t := tok4; refine wpList_load_want (by rfl) 39 (.tmp 3) rfl hq3 (by rw [HSm.out]; exact hN) rfl ?_; clear tok4)
              | (go_at_call 69; refine (HCM.out _).mono ?_; rintro e wc ⟨rfl, hbc⟩; replace hx7 := hx7.ext hbc; replace hq3 := hq3.ext hbc; replace hq4 := hq4.ext hbc; replace hB7 := below_step hB7 hbc)
              | ((with_reducible refine gd_load ?_); refine wpList_load_blk rfl 39 (.tmp 5) rfl hx7 (by rw [HTS.out]; exact hN) rfl ?_)
              | ((with_reducible refine gd_load ?_); refine wpList_load_blk rfl 39 (.tmp 3) rfl hq3 (by rw [HSm.out]; exact hN) rfl ?_)
              | (go_at_call 68; refine (HSB.out _).mono ?_; rintro e w8 ⟨rfl, hb8⟩)
              | ((with_reducible refine gd_store ?_); refine wpList_store_all rfl 39 (.tmp 5) (.tmp 36) rfl cr (hx7.ext hb8) (by rw [HRS.out]; exact hN) (by rw [HTS.out, HRS.out]) HR1.out (by rfl) (by rfl) ?_; intro w9 hx9 hg9; have hB9 := below_blk (below_step hB7 hb8) (below_step hB7 hb8).size hg9 (by omega); replace hq4 := (hq4.ext hb8).grown hg9 (by simp; omega); replace hq3 := (hq3.ext hb8).grown hg9 (by simp; omega))
              | fail)
            go_roundw
            case rel => exact ⟨k, by omega, rfl, by rw [← HQ.out]; exact hq4, by rw [Hrr.out]; exact hx9, hq3, hB9⟩
            case measure => (simp [intOf]; try omega)
        · rw [decide_eq_false c1] at HMin
          have HIn := Lib.hid (@stepB_in N m k c1)
          have HLess := Lib.hid (Nat.lt_of_not_le c2)
          rw [show cmpN (stepB N m k % 2 ^ 256) m = -1 from by rw [HIn.out]; unfold cmpN; rw [if_pos (by omega)]] at HCM
          have HQ := Lib.hid (quoB_same (step_less HLess.out).2)
          have HRem := Lib.hid (show stepB N m k % 2 ^ 256 = remB N m k from by rw [HIn.out, (step_less HLess.out).1])
          clear c1 c2
          generalize limbsV (remB N m (k + 1)) = c5 at *
          generalize hS2 : remB N m (k + 1) * 2 % 2 ^ 256 = S2 at *
          clear hS2
          generalize limbsV S2 = cS at *
          generalize limb S2 0 = l0 at *
          generalize hT : limbsV (stepB N m k % 2 ^ 256) = cT at *
          have HTe := Lib.hid hT
          clear hT
          generalize limb (stepB N m k % 2 ^ 256) 0 = t0 at *
          generalize hbb : N / 2 ^ k % 2 = b0 at *
          clear hbb
          go_wp2_with (first
            | ((with_reducible refine gd_load ?_); have _t := tok2; refine wpList_load_blk rfl 39 (.tmp 5) rfl hy5 (by rw [HS5.out]; exact hN) rfl ?_; clear tok2)
            | (go_at_call 48; refine (HMin.out _).mono ?_; rintro e w4 ⟨rfl, hb4⟩)
            | ((with_reducible refine gd_load ?_); refine wpList_load_blk rfl 39 (.tmp 5) rfl (hy5.ext hb4) (by rw [HS5.out]; exact hN) rfl ?_)
            | (go_at_call 50; refine (HShl.out _).mono ?_; rintro e w5 ⟨rfl, hb5⟩)
            | ((with_reducible refine gd_store ?_); refine wpList_store_all rfl 39 (.tmp 5) (.tmp 19) rfl cS ((hy5.ext hb4).ext hb5) (by rw [HSS.out]; exact hN) (by rw [HS5.out, HSS.out]) HS1.out (by rfl) (by rfl) ?_; intro w6 hx6 hg6)
            | fail)
          have hB5 := below_step (below_step hBr hb4) hb5
          have hB6 := below_blk hB5 hB5.size hg6 (by omega)
          have hq4 := ((hy4.ext hb4).ext hb5).grown hg6 (by simp; omega)
          have hq3 := ((hy3.ext hb4).ext hb5).grown hg6 (by simp; omega)
          have hcell0 := hx6.cellv HC0.out
          clear hb4 hb5 hg6 hB5 hy3 hy4 hy5 hBr
          go_still_tail 7, (by kernel_rfl)
          still_call (HBit.out _ hB6.drew)
          repeat still_step
          refine wpStill_nil ?_
          rw [HB0.out]
          refine wpList_store_cell rfl 37 (.tmp 26) (.tmp 25) rfl (w := w6.drew) hx6.drew (i := 0) (v := .int .u64 (t0 : Nat)) (by rw [HSS.out]; decide) (by kernel_rfl) rfl rfl rfl ?_
          intro w7 hx7 hg7
          rw [HT0.out] at hx7
          have hB7 := below_blk hB6.drew hB6.size hg7 (by omega)
          replace hq4 := hq4.drew.grown hg7 (by simp; omega)
          replace hq3 := hq3.drew.grown hg7 (by simp; omega)
          clear hx6 hg7 hB6 hcell0
          have tok3 : True := trivial
          have tok4 : True := trivial
          go_wp2_with (first
            | ((with_reducible refine gd_load ?_); have _t := tok3; refine wpList_load_want (by rfl) 39 (.tmp 5) rfl hx7 (by rw [HTS.out]; exact hN) rfl ?_; clear tok3)
            | ((with_reducible refine gd_load ?_); have _t := tok4; refine wpList_load_want (by rfl) 39 (.tmp 3) rfl hq3 (by rw [HSm.out]; exact hN) rfl ?_; clear tok4)
            | (go_at_call 69; refine (HCM.out _).mono ?_; rintro e wc ⟨rfl, hbc⟩; replace hx7 := hx7.ext hbc; replace hq3 := hq3.ext hbc; replace hq4 := hq4.ext hbc; replace hB7 := below_step hB7 hbc)
            | fail)
          go_roundw
          case rel => exact ⟨k, by omega, rfl, by rw [HQ.out]; exact hq4, by rw [← HRem.out, HTe.out]; exact hx7, hq3, hB7⟩
          case measure => (simp [intOf]; try omega)
end Go.Mun
