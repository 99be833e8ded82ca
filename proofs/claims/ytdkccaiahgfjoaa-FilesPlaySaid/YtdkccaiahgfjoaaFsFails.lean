/- The power fails: FS.fails answers true. -/
import Derived.Test.YtdkccaiahgfjoaaFsCutR
import Derived.Deep.DeepCutAuto
import Derived.Deep.CutBlock
import Derived.Outline
import Derived.StillTailTactics
namespace Go.Mun
open Go Go.RowKit Go.Proofs Go.Maps

theorem row_atC {w : World} {base : Nat} {e : TypeId} {size n c : Nat} {A : Option Addr} {xs : List Value} (h : w.ownsRow base e size (.slice A n c) n xs) (hn : 0 < n) : ∃ g, A = some ⟨g, 0, none⟩ := by
  rcases h.2 with ⟨e1, _⟩ | ⟨g, cap, cur, e1, _⟩
  · injection e1 with e1 e2 e3; omega
  · injection e1 with e1 e2 e3; exact ⟨g, e1⟩
/-- what each operation of the region writes -/
def SFe (n : Nat) : Nat → Value → World → Prop
  | 0, v, _ => v = .int .i64 (n : Nat)
  | 1, v, _ => v = .bool true
  | 2, v, _ => v = .bool true
  | 3, _, _ => True
  | 4, _, _ => True
  | 5, _, _ => True
  | 6, _, _ => True
  | 7, _, _ => True
  | 8, _, _ => True
  | 9, _, _ => True
  | 10, _, _ => True
  | 11, _, _ => True
  | 12, _, _ => True
  | 13, _, _ => True
  | _, v, _ => v = .bool true
theorem SFe_stays (n : Nat) : ∀ i v (wa wb : World), Below wa.heap.size wa wb → SFe n i v wa → SFe n i v wb
  | 0, _, _, _, _, h => h
  | 1, _, _, _, _, h => h
  | 2, _, _, _, _, h => h
  | 3, _, _, _, _, h => h
  | 4, _, _, _, _, h => h
  | 5, _, _, _, _, h => h
  | 6, _, _, _, _, h => h
  | 7, _, _, _, _, h => h
  | 8, _, _, _, _, h => h
  | 9, _, _, _, _, h => h
  | 10, _, _, _, _, h => h
  | 11, _, _, _, _, h => h
  | 12, _, _, _, _, h => h
  | 13, _, _, _, _, h => h
  | _ + 14, _, _, _, _, h => h
/-- what each operation of the region writes -/
def SFf (p g n c j r : Nat) (b : Bool) : Nat → Value → World → Prop
  | 0, v, _ => v = .int .i64 (n : Nat)
  | 1, v, _ => v = .bool false
  | 2, v, _ => v = .bool false
  | 3, v, _ => v = .pointer (some ⟨p, 0, none⟩)
  | 4, v, _ => v = .pointer (some ⟨p, 0, none⟩)
  | 5, v, _ => v = .pointer (some ⟨p, 3, none⟩)
  | 6, v, _ => v = .pointer (some ⟨p, 5, none⟩)
  | 7, v, _ => v = .slice (some ⟨g, 0, none⟩) n c
  | 8, v, _ => v = .int .i64 (j : Nat)
  | 9, v, _ => v = .int .i64 (n : Nat)
  | 10, v, _ => v = .int .i64 (r : Nat)
  | 11, v, _ => v = .pointer (some ⟨g, r, none⟩)
  | 12, v, _ => v = .bool b
  | 13, v, _ => v = .bool !b
  | _, v, _ => v = .bool !b
theorem SFf_stays (p g n c j r : Nat) (b : Bool) : ∀ i v (wa wb : World), Below wa.heap.size wa wb → SFf p g n c j r b i v wa → SFf p g n c j r b i v wb
  | 0, _, _, _, _, h => h
  | 1, _, _, _, _, h => h
  | 2, _, _, _, _, h => h
  | 3, _, _, _, _, h => h
  | 4, _, _, _, _, h => h
  | 5, _, _, _, _, h => h
  | 6, _, _, _, _, h => h
  | 7, _, _, _, _, h => h
  | 8, _, _, _, _, h => h
  | 9, _, _, _, _, h => h
  | 10, _, _, _, _, h => h
  | 11, _, _, _, _, h => h
  | 12, _, _, _, _, h => h
  | 13, _, _, _, _, h => h
  | _ + 14, _, _, _, _, h => h
section
variable {k p : Nat} {M : FSs} {φ : Nat → Nat} {o : Own} {K L : Nat} {w : World}
set_option maxRecDepth 100000 in
set_option maxHeartbeats 4000000 in
theorem fails_yes (h : RelP k p M φ o K L w) (hop : M.op = 0) (hK : K ≤ 1000000000) (hL : L ≤ 1000000000) :
    Calls Try.prog 30 #[.pointer (some ⟨p, 0, none⟩)] w fun e w' => e = .returned (.bool true) ∧ ∃ o', RelP k p (failsM M) φ o' K L w' ∧ Turn k o o' w w' := by
  obtain ⟨bn, bs, vw, vk, hh⟩ := h.head
  have hx := hh.blk
  have H := Lib.hid hh
  have HR := Lib.hid h
  have y3 := hx.cellv (i := 3) rfl
  rw [hop] at y3
  have HO := Lib.hid hop
  obtain ⟨AW, cw, evw⟩ := row_slC hh.waits
  obtain ⟨AK, ck, evk⟩ := row_slC hh.keep
  subst evw evk
  have y2 := hx.cellv (i := 2) rfl
  clear hh h hop
  go_enter Try.func30, Try.ntmps30
  go_upto_block 0 with (fail)
  go_cut [2] (fun s2 wx => ∃ N, s2 = .bool false ∧ MapV wx bs (idT φ (left M)) N ∧ N ≤ K ∧ w.grownBy wx (some bs))
  case first =>
    obtain ⟨N0, hN0, hK0⟩ := H.out.syn
    have HW := Lib.hid (fun (wr : World) (hg : w.grownBy wr (some bs)) => hx.same (same_of hg (HR.out.own.lt H.out.op) H.out.op (one_some H.out.os) (by simp)))
    have HWR := Lib.hid (fun (wr : World) (hg : w.grownBy wr (some bs)) => own_same H.out.waits fun g hg' => same_of hg (HR.out.own.lt (H.out.ow g hg')) (H.out.ow g hg') (one_some H.out.os) (by simp))
    have HKR := Lib.hid (fun (wr : World) (hg : w.grownBy wr (some bs)) => own_same H.out.keep fun g hg' => same_of hg (HR.out.own.lt (H.out.ok g hg')) (H.out.ok g hg') (one_some H.out.os) (by simp))
    have HOK := Lib.hid HR.out.fine.ok
    have hml := HR.out.wl
    have HKE := Lib.hid (show ∀ j, keptN M.keep j 0 = j from fun j => rfl)
    go_wp2_with fail
    go_loopw [38] (fun iv wr => ∃ (j N : Nat), j ≤ M.waits.length ∧ iv = .int .i64 j ∧ MapV wr bs (idT φ (doL M.syn (M.waits.take j))) N ∧ N + (M.waits.length - j) ≤ K ∧ keptN M.keep j (M.waits.length - j) = kept M ∧ w.grownBy wr (some bs)) (fun iv _ => M.waits.length - (RowKit.intOf iv).toNat)
    case atStart => exact ⟨0, N0, Nat.zero_le _, rfl, hN0, hK0, rfl, World.grownBy.refl _ _⟩
    case round =>
      obtain ⟨j, N, hj, rfl, hM, hNK, hkp, hgr⟩ := hrel
      have HM := Lib.hid hM
      have HKP := Lib.hid hkp
      have HGR := Lib.hid hgr
      clear hM hkp hgr
      by_cases hlt : j < M.waits.length
      · have f1 : decide ((j : Int) < M.waits.length) = true := decide_eq_true (by omega)
        have b1 : (0 : Int) ≤ j := by omega
        have b2 : (j : Int) < M.waits.length := by omega
        obtain ⟨c, hc⟩ : ∃ c, M.waits[j]? = some c := ⟨_, List.getElem?_eq_getElem hlt⟩
        have hoW := HWR.out wr HGR.out
        obtain ⟨gW, rfl⟩ := row_atC hoW (by omega)
        have hc1 := hoW.cellAt j (by omega)
        rw [List.getElem?_map, hc] at hc1
        simp only [Option.map_some] at hc1
        have HC := Lib.hid hc
        have y5 := (HW.out wr HGR.out).cellv (i := 5) rfl
        obtain ⟨cv, hcv⟩ : ∃ v, v = chgV φ c := ⟨_, rfl⟩
        rw [← hcv] at hc1
        have HCV := Lib.hid hcv
        clear hc hoW hcv
        go_upto_region 9 with (fail)
        by_cases h0 : M.keep.length = 0
        · have HE := Lib.hid (show ((M.keep.length : Int) == 0) = true by rw [h0]; rfl)
          have H0 := Lib.hid h0
          clear h0
          refine wp_region_each (by kernel_rfl) (by kernel_rfl) (by kernel_rfl) (fun w w' => Below w.heap.size w w') (fun w => Below.refl _ _) (fun x y z h1 h2 => below_step h1 h2) (SFe M.keep.length) (SFe_stays _) ?_ ?_
          · simp only [EachStep]
            refine ⟨?_, ?_, ?_, ?_, ?_, ?_, ?_, ?_, ?_, ?_, ?_, ?_, ?_, ?_, ?_, trivial⟩
            · intro V w' hb hd
              clear hd
              refine ⟨?_⟩
              simp only [fill]
              go_wp2
              exact ⟨rfl, rfl, Below.refl _ _, rfl⟩
            · intro V w' hb hd
              have q := HE.out
              simp only [DepFacts, SFe, Region.binds, forall_const, and_true] at hd
              refine ⟨?_⟩
              simp only [fill, hd]
              clear hd
              go_wp2
              exact ⟨rfl, rfl, Below.refl _ _, rfl⟩
            · intro V w' hb hd
              simp only [DepFacts, SFe, Region.binds, forall_const, and_true] at hd
              refine ⟨?_⟩
              simp only [fill, hd]
              clear hd
              go_wp2
              exact ⟨rfl, rfl, Below.refl _ _, rfl⟩
            · intro V w' hb hd
              simp only [DepFacts, SFe, Region.binds, forall_const, and_true] at hd
              refine ⟨?_⟩
              simp only [fill, hd]
              clear hd
              go_wp2
              exact ⟨rfl, rfl, Below.refl _ _, trivial⟩
            · intro V w' hb hd
              simp only [DepFacts, SFe, Region.binds, forall_const, and_true, true_and] at hd
              refine ⟨?_⟩
              simp only [fill, hd]
              clear hd
              go_wp2
              exact ⟨rfl, rfl, Below.refl _ _, trivial⟩
            · intro V w' hb hd
              simp only [DepFacts, SFe, Region.binds, forall_const, and_true, true_and] at hd
              refine ⟨?_⟩
              simp only [fill, hd]
              clear hd
              go_wp2
              exact ⟨rfl, rfl, Below.refl _ _, trivial⟩
            · intro V w' hb hd
              simp only [DepFacts, SFe, Region.binds, forall_const, and_true, true_and] at hd
              refine ⟨?_⟩
              simp only [fill, hd]
              clear hd
              go_wp2
              exact ⟨rfl, rfl, Below.refl _ _, trivial⟩
            · intro V w' hb hd
              simp only [DepFacts, SFe, Region.binds, forall_const, and_true, true_and] at hd
              refine ⟨?_⟩
              simp only [fill, hd]
              clear hd
              go_wp2
              exact ⟨rfl, rfl, Below.refl _ _, trivial⟩
            · intro V w' hb hd
              simp only [DepFacts, SFe, Region.binds, forall_const, and_true] at hd
              refine ⟨?_⟩
              simp only [fill, hd]
              clear hd
              go_wp2
              exact ⟨rfl, rfl, Below.refl _ _, trivial⟩
            · intro V w' hb hd
              simp only [DepFacts, SFe, Region.binds, forall_const, and_true] at hd
              refine ⟨?_⟩
              simp only [fill, hd]
              clear hd
              go_wp2
              exact ⟨rfl, rfl, Below.refl _ _, trivial⟩
            · intro V w' hb hd
              simp only [DepFacts, SFe, Region.binds, forall_const, and_true, true_and] at hd
              refine ⟨?_⟩
              simp only [fill, hd]
              clear hd
              go_wp2
              exact ⟨rfl, rfl, Below.refl _ _, trivial⟩
            · intro V w' hb hd
              simp only [DepFacts, SFe, Region.binds, forall_const, and_true, true_and] at hd
              refine ⟨?_⟩
              simp only [fill, hd]
              clear hd
              go_wp2
              exact ⟨rfl, rfl, Below.refl _ _, trivial⟩
            · intro V w' hb hd
              simp only [DepFacts, SFe, Region.binds, forall_const, and_true, true_and] at hd
              refine ⟨?_⟩
              simp only [fill, hd]
              clear hd
              go_wp2
              exact ⟨rfl, rfl, Below.refl _ _, trivial⟩
            · intro V w' hb hd
              simp only [DepFacts, SFe, Region.binds, forall_const, and_true, true_and] at hd
              refine ⟨?_⟩
              simp only [fill, hd]
              clear hd
              go_wp2
              exact ⟨rfl, rfl, Below.refl _ _, trivial⟩
            · intro V w' hb hd
              simp only [DepFacts, SFe, Region.binds, forall_const, and_true] at hd
              refine ⟨?_⟩
              simp only [fill, hd]
              clear hd
              go_wp2
              exact ⟨rfl, rfl, Below.refl _ _, rfl⟩
          · intro V w12 hb12 hV
            simp only [SFacts, SFe] at hV
            have h14 := hV.2.2.2.2.2.2.2.2.2.2.2.2.2.2.1
            clear hV
            simp only [fill, h14]
            clear h14
            try simp only [Exit.then]
            try go_simp
            have hgr2 : w.grownBy w12 (some bs) := HGR.out.trans ⟨hb12.os, hb12.tape, hb12.output, hb12.size, fun k hk _ => hb12.block k hk⟩
            have hM2 := (show MapV wr.drew bs _ _ from HM.out).ext hb12
            go_wp2
            go_meet
            refine ⟨N, rfl, ?_, by omega, hgr2⟩
            rw [show left M = doL M.syn (M.waits.take j) from by unfold left; rw [← HKP.out, show M.waits.length - j = (M.waits.length - j - 1) + 1 by omega, keptN, if_pos (.inl H0.out)]]
            exact hM2
        · have hoK := HKR.out wr HGR.out
          obtain ⟨gK, rfl⟩ := row_atC hoK (by omega)
          obtain ⟨n, hn⟩ : ∃ n, n = M.keep.length := ⟨_, rfl⟩
          have hr := Nat.mod_lt j (show 0 < M.keep.length by omega)
          obtain ⟨r, hrr⟩ : ∃ r, r = j % M.keep.length := ⟨_, rfl⟩
          obtain ⟨b, hb⟩ : ∃ b, b = M.keep.getD (j % M.keep.length) false := ⟨_, rfl⟩
          have hkc := hoK.cellAt r (by rw [hrr]; omega)
          have HKD := Lib.hid (show M.keep[r]? = some b by rw [hrr, hb, List.getD_eq_getElem?_getD, List.getElem?_eq_getElem hr]; rfl)
          rw [List.getElem?_map, HKD.out] at hkc
          simp only [Option.map_some] at hkc
          have HB := Lib.hid hb
          have hr0 : r < n := by rw [hrr, hn]; exact hr
          have hnp : 0 < n := by omega
          have HRM := Lib.hid (show ((j : Int)).tmod ((n : Nat) : Int) = ((r : Nat) : Int) by rw [Int.tmod_eq_emod_of_nonneg (by omega), hrr, hn]; rfl)
          have HR1 := Lib.hid (show (0 : Int) ≤ (r : Nat) by omega)
          have HR2 := Lib.hid (show ((r : Nat) : Int) < (n : Nat) by omega)
          have HE := Lib.hid (show ((n : Int) == 0) = false by rw [beq_eq_false_iff_ne]; omega)
          have HKC := Lib.hid (fun (w' : World) (hb : Below wr.drew.heap.size wr.drew w') => cell_ext hb (show wr.drew.cell? _ = _ from hkc))
          have HY5 := Lib.hid (fun (w' : World) (hb : Below wr.drew.heap.size wr.drew w') => cell_ext hb (show wr.drew.cell? _ = _ from y5))
          rw [← hn] at HY5 ⊢
          replace hrr := Lib.hid hrr
          replace hn := Lib.hid hn
          clear hb hkc hoK hr y5
          refine wp_region_each (by kernel_rfl) (by kernel_rfl) (by kernel_rfl) (fun w w' => Below w.heap.size w w') (fun w => Below.refl _ _) (fun x y z h1 h2 => below_step h1 h2) (SFf p gK n ck j r b) (SFf_stays _ _ _ _ _ _ _) ?_ ?_
          · simp only [EachStep]
            refine ⟨?_, ?_, ?_, ?_, ?_, ?_, ?_, ?_, ?_, ?_, ?_, ?_, ?_, ?_, ?_, trivial⟩
            · intro V w' hb hd
              clear hd
              refine ⟨?_⟩
              simp only [fill]
              go_wp2
              exact ⟨rfl, rfl, Below.refl _ _, rfl⟩
            · intro V w' hb hd
              have q := HE.out
              simp only [DepFacts, SFf, Region.binds, forall_const, and_true] at hd
              refine ⟨?_⟩
              simp only [fill, hd]
              clear hd
              go_wp2
              exact ⟨rfl, rfl, Below.refl _ _, rfl⟩
            · intro V w' hb hd
              simp only [DepFacts, SFf, Region.binds, forall_const, and_true] at hd
              refine ⟨?_⟩
              simp only [fill, hd]
              clear hd
              go_wp2
              exact ⟨rfl, rfl, Below.refl _ _, rfl⟩
            · intro V w' hb hd
              simp only [DepFacts, SFf, Region.binds, forall_const, and_true] at hd
              refine ⟨?_⟩
              simp only [fill, hd]
              clear hd
              go_wp2
              exact ⟨rfl, rfl, Below.refl _ _, rfl⟩
            · intro V w' hb hd
              simp only [DepFacts, SFf, Region.binds, forall_const, and_true] at hd
              refine ⟨?_⟩
              simp only [fill, hd]
              clear hd
              go_wp2
              exact ⟨rfl, rfl, Below.refl _ _, rfl⟩
            · intro V w' hb hd
              simp only [DepFacts, SFf, Region.binds, forall_const, and_true] at hd
              refine ⟨?_⟩
              simp only [fill, hd]
              clear hd
              go_wp2
              exact ⟨rfl, rfl, Below.refl _ _, rfl⟩
            · intro V w' hb hd
              simp only [DepFacts, SFf, Region.binds, forall_const, and_true] at hd
              refine ⟨?_⟩
              simp only [fill, hd]
              clear hd
              go_wp2
              exact ⟨rfl, rfl, Below.refl _ _, rfl⟩
            · intro V w' hb hd
              have q := HY5.out _ hb
              simp only [DepFacts, SFf, Region.binds, forall_const, and_true] at hd
              refine ⟨?_⟩
              simp only [fill, hd]
              clear hd
              go_wp2
              exact ⟨rfl, rfl, Below.refl _ _, rfl⟩
            · intro V w' hb hd
              simp only [DepFacts, SFf, Region.binds, forall_const, and_true] at hd
              refine ⟨?_⟩
              simp only [fill, hd]
              clear hd
              go_wp2
              exact ⟨rfl, rfl, Below.refl _ _, rfl⟩
            · intro V w' hb hd
              simp only [DepFacts, SFf, Region.binds, forall_const, and_true] at hd
              refine ⟨?_⟩
              simp only [fill, hd]
              clear hd
              go_wp2
              exact ⟨rfl, rfl, Below.refl _ _, rfl⟩
            · intro V w' hb hd
              have q := HRM.out
              simp only [DepFacts, SFf, Region.binds, forall_const, and_true] at hd
              refine ⟨?_⟩
              simp only [fill, hd]
              clear hd
              go_wp2
              exact ⟨rfl, rfl, Below.refl _ _, rfl⟩
            · intro V w' hb hd
              have q1 := HR1.out
              have q2 := HR2.out
              simp only [DepFacts, SFf, Region.binds, forall_const, and_true] at hd
              refine ⟨?_⟩
              simp only [fill, hd]
              clear hd
              go_wp2
              exact ⟨rfl, rfl, Below.refl _ _, rfl⟩
            · intro V w' hb hd
              have q := HKC.out _ hb
              simp only [DepFacts, SFf, Region.binds, forall_const, and_true] at hd
              refine ⟨?_⟩
              simp only [fill, hd]
              clear hd
              go_wp2
              exact ⟨rfl, rfl, Below.refl _ _, rfl⟩
            · intro V w' hb hd
              simp only [DepFacts, SFf, Region.binds, forall_const, and_true] at hd
              refine ⟨?_⟩
              simp only [fill, hd]
              clear hd
              go_wp2
              exact ⟨rfl, rfl, Below.refl _ _, rfl⟩
            · intro V w' hb hd
              simp only [DepFacts, SFf, Region.binds, forall_const, and_true] at hd
              refine ⟨?_⟩
              simp only [fill, hd]
              clear hd
              go_wp2
              exact ⟨rfl, rfl, Below.refl _ _, rfl⟩
          · intro V w12 hb12 hV
            simp only [SFacts, SFf] at hV
            have h14 := hV.2.2.2.2.2.2.2.2.2.2.2.2.2.2.1
            clear hV
            simp only [fill, h14]
            clear h14
            try simp only [Exit.then]
            try go_simp
            have hgr2 : w.grownBy w12 (some bs) := HGR.out.trans ⟨hb12.os, hb12.tape, hb12.output, hb12.size, fun k hk _ => hb12.block k hk⟩
            have hM2 := (show MapV wr.drew bs _ _ from HM.out).ext hb12
            cases b
            · -- not kept
              go_wp2
              go_meet
              refine ⟨N, rfl, ?_, by omega, hgr2⟩
              rw [show left M = doL M.syn (M.waits.take j) from by unfold left; rw [← HKP.out, show M.waits.length - j = (M.waits.length - j - 1) + 1 by omega, keptN, if_pos (.inr (by rw [← HB.out]))]]
              exact hM2
            · -- kept
              have y1 := (HW.out w12 hgr2).cellv (i := 1) rfl
              have CD := Lib.hid (do_any hM2 (by omega) c (HOK.out.at HC.out))
              rw [← HCV.out] at CD
              have HKN := Lib.hid (show keptN M.keep (j + 1) (M.waits.length - (j + 1)) = kept M by
                have h1 := HKP.out
                rw [show M.waits.length - j = (M.waits.length - (j + 1)) + 1 by omega, keptN, if_neg] at h1
                · exact h1
                · rintro (h2 | h2)
                  · rw [← hn.out] at h2; omega
                  · rw [← HB.out] at h2; cases h2)
              have HTK := Lib.hid (doL_take (P := M.syn) HC.out)
              go_wp2_with (first
                | (go_at_call 45; (with_reducible refine CD.out.mono ?_); rintro e w13 ⟨rfl, ⟨N', hM13, hN13⟩, hg13⟩)
                | fail)
              go_roundw
              case rel => exact ⟨j + 1, N', by omega, by go_num, by rw [HTK.out]; exact hM13, by omega, HKN.out, hgr2.trans hg13⟩
              case measure => simp [RowKit.intOf]; omega
      · have ej : j = M.waits.length := by omega
        have f1 : decide ((j : Int) < M.waits.length) = false := decide_eq_false (by omega)
        go_wp2
        go_meet
        refine ⟨N, rfl, ?_, by omega, HGR.out⟩
        have e1 := HKP.out
        rw [ej, Nat.sub_self] at e1
        have e2 : left M = doL M.syn (M.waits.take j) := by unfold left; rw [← e1, ej]; rfl
        rw [e2]
        exact HM.out
  case rest =>
    obtain ⟨N, rfl, hM, hNK, hgr⟩ := hcut
    have _hz := wc.heap.size
    have hx1 := hx.same (same_of hgr (HR.out.own.lt H.out.op) H.out.op (one_some H.out.os) (by simp))
    have y1 := hx1.cellv (i := 1) rfl
    go_wp2_with (first
      | (at_range; refine wpList_range_own _ rfl _ 56 rfl 9 60 lawS namesTy RV bs N _ rfl hM ?_; intro w0 hrg0 hg0 hs0)
      | fail)
    go_frame
    have hgw0 : w.grownBy w0 (some bs) := hgr.trans ⟨hg0.os, hg0.tape, hg0.output, hg0.size, fun k hk _ => hg0.block k hk (by simp)⟩
    have T0 : Turn k o o w w0 := Turn.wrote HR.out.own hgw0 H.out.os
    have hwb : Below wc.heap.size wc w0 := ⟨hg0.os, hg0.tape, hg0.output, hg0.size, fun k hk => hg0.block k hk (by simp)⟩
    have hpc : p < wc.heap.size := Nat.lt_of_lt_of_le (HR.out.own.lt H.out.op) hgr.size
    have hrl : Rises (left M) := doL_rises HR.out.fine.rsyn _
    have hF0 : ∀ i, Live M i → FileAt k φ o w0 i (cutFs M.cut M.fs (left M) (Maps.has (encM (idT φ (left M)))) i) := fun i hi => by
      rw [cutFs_start fun p hp => has_enc (idT_get (getP_at hrl hp))]
      obtain ⟨v, f1, f2, f3, f4⟩ := (HR.out.file i hi).1
      exact ⟨v, f1.same (same_of hgw0 (HR.out.own.lt f2) f2 (one_some H.out.os) (by simp)), f2, own_same f3 fun g hg' => same_of hgw0 (HR.out.own.lt (f4 g hg')) (f4 g hg') (one_some H.out.os) (by simp), f4⟩
    go_loopw [7] (fun _ wr => ∃ (lf : Lit → Bool) (cnt : Nat), wr.ranges Try.prog 9 RV bs wc.heap.size N (encM (idT φ (left M))) lf cnt ∧ (∀ i, Live M i → FileAt k φ o wr i (cutFs M.cut M.fs (left M) lf i)) ∧ (∀ b t, o b = some (k, t) → (∀ i, t ≠ .file i) → wr.heap[b]? = w0.heap[b]?) ∧ Turn k o o w wr) (fun _ wr => wr.rangeLeft bs wc.heap.size)
    case atStart => exact ⟨_, _, hrg0, hF0, fun _ _ _ _ => rfl, T0⟩
    case round =>
      obtain ⟨lf, cnt, hrg, hF, hst, hT⟩ := hrel
      have HF := Lib.hid hF
      have HST := Lib.hid hst
      have HT := Lib.hid hT
      clear hF hst hT
      go_wp2_with (first
        | (at_next; refine wpList_next_names rfl (.tmp 75) rfl rfl hrg ?_ ?_)
        | fail)
      · intro hc0 hl0
        have hxr : Blk wr p 59 _ := (hx1.ext hwb).same (HST.out p _ H.out.op (by simp))
        have y1 := hxr.cellv (i := 1) rfl
        have hMr : MapV wr bs (idT φ (left M)) N := (hM.ext hwb).same (HST.out bs _ H.out.os (by simp))
        have HL0 := Lib.hid hl0
        have hpr : p < wr.heap.size := hxr.lt
        clear hl0
        go_wp2_with (first
          | (go_at_call 36; (with_reducible refine (CloneN_any hMr).mono ?_); rintro e w2 ⟨rfl, hM2, hb2⟩; have hx2 := hxr.ext hb2)
          | ((with_reducible refine gd_store ?_); refine wpList_store_cell rfl 56 (.tmp 133) (.tmp 131) rfl (i := 0) (v := .map (some wr.heap.size)) hx2 (show 0 < 8 by decide) (by kernel_rfl) rfl rfl rfl ?_; intro w3 hx3 hg3)
          | ((with_reducible refine gd_store ?_); refine wpList_store_cell rfl 57 (.tmp 135) (.const (.slice none 0 0)) rfl (i := 2) (v := .slice none 0 0) hx3 (show 2 < 8 by decide) (by kernel_rfl) rfl rfl rfl ?_; intro w4 hx4 hg4)
          | ((with_reducible refine gd_store ?_); refine wpList_store_cell rfl 4 (.tmp 138) (.const (.bool true)) rfl (i := 6) (v := .bool true) hx4 (show 6 < 8 by decide) (by kernel_rfl) rfl rfl rfl ?_; intro w5 hx5 hg5)
          | ((with_reducible refine gd_store ?_); refine wpList_store_part rfl 35 (.tmp 142) (.tmp 140) rfl (o := 3) (cells := #[.int .i64 (-1), .int .i64 0, .slice none 0 0]) hx5 (show 3 + 3 ≤ 8 by decide) rfl rfl (by kernel_rfl) rfl ?_; intro w6 hx6 hg6)
          | fail)
        go_ret
        rw [show failsM M = crashM M from if_pos HO.out]
        have hg26 := ((hg3.trans hg4).trans hg5).trans hg6
        have T6 : Turn k o o w w6 := (HT.out.below2 hb2).wrote2 hg26 H.out.op
        have hrw : w.heap.size ≤ wr.heap.size := HT.out.size
        have hlt2 := hM2.lt
        have ho := HR.out.own
        have hne : wr.heap.size ≠ p := by omega
        have hs6 : w2.heap.size ≤ w6.heap.size := hg26.size
        have st : ∀ {b t}, o b = some (k, t) → t ≠ .fs → w6.heap[b]? = wr.heap[b]? := fun {b t} e n1 => by
          have hb := ho.lt e
          rw [same_of hg26 (by omega) e (one_some H.out.op) n1, hb2.block b (by omega)]
        have q1 : ∀ {b x}, o b = some x → give o wr.heap.size (k, .now) b = some x := fun e => by rw [give_ne (by have := ho.lt e; omega)]; exact e
        refine ⟨rfl, give o wr.heap.size (k, .now), ⟨HR.out.fine.crash, (ho.more T6.size).give (by omega) _, ⟨wr.heap.size, bs, .slice none 0 0, .slice none 0 0, ⟨hx6, q1 H.out.op, give_same _ _ _, q1 H.out.os, ⟨N, hM2.same (hg26.block _ hlt2 (by intro e; injection e with e; omega)), hNK⟩, ⟨N, hMr.same (st H.out.os (by simp)), hNK⟩, World.ownsRow_nil _ _ _ _, (fun g h => by cases h), World.ownsRow_nil _ _ _ _, (fun g h => by cases h)⟩⟩, fun i hi => ?_, HR.out.ops, ⟨by show (-9223372036854775808 : Int) ≤ 0; decide, by show (0 : Int) ≤ _; decide⟩, by show (-1 : Int) ≤ _; decide, Nat.zero_le _⟩, T6.give hrw _⟩
        have hid : hasId (left M) i := by
          rcases hi with h | h | ⟨n, h⟩
          · exact h
          · exact h
          · exact absurd h List.not_mem_nil
        have hli := left_live HR.out.fine hid
        obtain ⟨v, f1, f2, f3, f4⟩ := HF.out i hli
        have hfi : (crashM M).fs i = cutFs M.cut M.fs (left M) lf i := (cutFs_end HL0.out i).symm
        rw [hfi]
        refine ⟨⟨v, f1.same (st f2 (by simp)), q1 f2, own_same f3 fun g hg => st (f4 g hg) (by simp), fun g hg => q1 (f4 g hg)⟩, ?_⟩
        rw [cutFs_end HL0.out i, if_pos hid]
        show ((M.fs i).b.take _).length ≤ L
        rw [List.length_take]
        have := (HR.out.file i hli).2
        omega
      · intro n i w1 cnt1 hgt hln hrg1 hlt1 hg1 hs1 hen1
        have hxp : Blk w1 p 59 _ := ((hx1.ext hwb).same (HST.out p _ H.out.op (by simp))).grown hg1 (by intro e; injection e with e; omega)
        have y4 := hxp.cellv (i := 4) rfl
        have hlo : ∀ {b x}, o b = some x → b < wc.heap.size := fun e => Nat.lt_of_lt_of_le (HR.out.own.lt e) hgr.size
        have hid : hasId (left M) i := ⟨_, getP_mem hgt, rfl⟩
        have hli := left_live HR.out.fine hid
        obtain ⟨v, f1, f2, f3, f4⟩ := HF.out i hli
        obtain ⟨s1, s2⟩ := cutFs_step (cut := M.cut) (fs := M.fs) hrl (HR.out.fine.once.doL HR.out.fine.rsyn (HR.out.fine.ok.take _)) (getP_mem hgt) hln
        rw [s1] at f1 f3
        have S2 := Lib.hid s2
        obtain ⟨A, c, rfl⟩ := row_slC f3
        have hcap := row_cap f3
        have hsz := HR.out.fine.sized i
        have hbl := (HR.out.file i hli).2
        have hat := cutAt_le (cut := M.cut) hsz
        have hrs : wc.heap.size ≤ wr.heap.size := by have := hrg.lt; omega
        have st1 : ∀ {b x}, o b = some x → w1.heap[b]? = wr.heap[b]? := fun {b x} e => hg1.block b (Nat.lt_of_lt_of_le (hlo e) hrs) (by intro e2; injection e2 with e2; have := hlo e; omega)
        have hz := f1.same (st1 f2)
        have z0 := hz.cellv (i := 0) rfl
        have z1 := hz.cellv (i := 1) rfl
        have F3 := Lib.hid f3
        have F2 := Lib.hid f2
        have F4 := Lib.hid f4
        have ST1 := Lib.hid (fun (b : Nat) (x : Nat × Tag) (e : o b = some x) => st1 e)
        have HRG := Lib.hid hrg
        have HRG1 := Lib.hid hrg1
        have HG1 := Lib.hid hg1
        obtain ⟨l0, hl0⟩ : ∃ x, x = (M.fs i).b.length := ⟨_, rfl⟩
        obtain ⟨s0, hs0⟩ : ∃ x, x = (M.fs i).s := ⟨_, rfl⟩
        obtain ⟨at0, hat0⟩ : ∃ x, x = cutAt M.cut (M.fs i) := ⟨_, rfl⟩
        have hcd : at0 = if 0 ≤ M.cut then s0 + M.cut.toNat % (l0 - s0 + 1) else s0 := by rw [hat0, hs0, hl0]; rfl
        rw [← hl0] at z0 hz hcap hsz hbl hat
        rw [← hs0] at z1 hz hsz hat
        rw [← hat0] at hat
        have HLS := Lib.hid (show l0 = (M.fs i).b.length ∧ s0 = (M.fs i).s ∧ at0 = cutAt M.cut (M.fs i) from ⟨hl0, hs0, hat0⟩)
        clear f1 f2 f3 f4 st1 s1 s2 hl0 hs0 hat0 hrg hrg1 hg1 hxp
        have hcb := HR.out.cut
        have hbT := bytesTyC
        by_cases hcut : 0 ≤ M.cut
        · have f1 : decide (0 ≤ M.cut) = true := decide_eq_true hcut
          rw [if_pos hcut] at hcd
          have hmod := Nat.mod_lt M.cut.toNat (show 0 < l0 - s0 + 1 by omega)
          obtain ⟨kp, hkp⟩ : ∃ x, x = M.cut.toNat % (l0 - s0 + 1) := ⟨_, rfl⟩
          have QM := Lib.hid (show M.cut.tmod ((l0 : Int) - (s0 : Int) + 1) = (kp : Int) by
            rw [Int.tmod_eq_emod_of_nonneg hcut, hkp, Int.natCast_emod, Int.toNat_of_nonneg hcut]
            congr 1
            omega)
          rw [← hkp] at hcd hmod
          clear hkp
          have q0 : (((l0 : Int) - (s0 : Int) + 1) == 0) = false := by rw [beq_eq_false_iff_ne]; omega
          have qw : IntKind.i64.wrap ((l0 : Int) - (s0 : Int) + 1) = (l0 : Int) - (s0 : Int) + 1 := IntWalk.i64_in _ (by omega)
          have qw0 : IntKind.i64.wrap ((l0 : Int) - (s0 : Int)) = (l0 : Int) - (s0 : Int) := IntWalk.i64_in _ (by omega)
          have qk : IntKind.i64.wrap (kp : Int) = (kp : Int) := IntWalk.i64_in _ (by omega)
          go_upto_region 17 with (fail)
          have qm := QM.out
          go_quiet (fail)
          have HBn := below_drewN (Below.refl w1.heap.size w1) nq
          replace hz := hz.drewN nq
          have z0 := hz.cellv (i := 0) rfl
          have z1 := hz.cellv (i := 1) rfl
          have hwn0 : (w1.drewN nq).heap.size = w1.heap.size := rfl
          generalize w1.drewN nq = wn at HBn hz z0 z1 hwn0 ⊢
          try simp only [Exit.then]
          try go_simp
          have qs : IntKind.i64.wrap ((s0 : Int) + (kp : Int)) = (s0 : Int) + (kp : Int) := IntWalk.i64_in _ (by omega)
          subst at0
          have qc := cutw_hB hbT A l0 c (kh := .i64) (hi' := (s0 : Int) + (kp : Int)) (hi := s0 + kp) (by omega) (by omega)
          have HBN := Lib.hid HBn
          have hpw : wn.heap.size = wr.heap.size := hwn0.trans hs1
          have HPW := Lib.hid hpw
          clear hpw HBn
          go_upto_region 18 with (fail)
          go_still_tail 14, (by kernel_rfl)
          refine wpList_store_cell rfl 26 (.tmp 116) (.tmp 114) rfl (w := wn.drew) hz.drew (i := 0) (v := .slice A (s0 + kp) c) (show 0 < 2 by decide) (by kernel_rfl) rfl rfl rfl ?_
          intro w5 hx5 hg5
          have y0 := hx5.cellv (i := 0) rfl
          go_wp2_with (first
            | ((with_reducible refine gd_store ?_); refine wpList_store_cell rfl 3 (.tmp 124) (.tmp 122) rfl (i := 1) (v := .int .i64 (s0 + kp : Nat)) hx5 (show 1 < 2 by decide) (by kernel_rfl) rfl rfl rfl ?_; intro w6 hx6 hg6)
            | fail)
          have hg16 : w1.grownBy w6 (some (φ i)) := by
            have h1 : wn.grownBy w6 (some (φ i)) := (show wn.grownBy w5 (some (φ i)) from ⟨hg5.os, hg5.tape, hg5.output, hg5.size, hg5.block⟩).trans hg6
            exact grown_via HBN.out h1
          have nbi : bs ≠ φ i := own_ne H.out.os F2.out (by simp)
          have nri : wc.heap.size ≠ φ i := by have := hlo F2.out; omega
          have hrg6 := HRG1.out.kept hg16 (by intro e; injection e with e; exact nbi e) (by intro e; injection e with e; exact nri e)
          have w1s : w1.heap.size = wr.heap.size := hs1
          have st6 : ∀ {b : Nat} {t : Tag}, o b = some (k, t) → t ≠ .file i → w6.heap[b]? = wr.heap[b]? := fun {b t} e ht => (same_of hg16 (by have := hlo e; omega) e (one_some F2.out) ht).trans (ST1.out b _ e)
          have hrel6 : ∃ (lf : Lit → Bool) (cnt : Nat), w6.ranges Try.prog 9 RV bs wc.heap.size N (encM (idT φ (left M))) lf cnt ∧ (∀ i, Live M i → FileAt k φ o w6 i (cutFs M.cut M.fs (left M) lf i)) ∧ (∀ b t, o b = some (k, t) → (∀ i, t ≠ .file i) → w6.heap[b]? = w0.heap[b]?) ∧ Turn k o o w w6 := by
            refine ⟨_, _, hrg6, fun j hj => ?_, fun b t e ht => (st6 e (ht i)).trans (HST.out b t e ht), (HT.out.beyond HG1.out hgr.size).wrote2 hg16 F2.out⟩
            rw [S2.out]
            show FileAt k φ o w6 j (if j = i then cutF M.cut (M.fs i) else cutFs M.cut M.fs (left M) lf j)
            by_cases hji : j = i
            · subst hji
              rw [if_pos rfl]
              obtain ⟨e1, e2, e3⟩ := HLS.out
              have F4' : ∀ n g, (Value.slice A n c).ownBlock = some g → o g = some (k, .byt j) := by
                intro n g hg
                cases A with
                | none => cases hg
                | some a => exact F4.out g hg
              have hle : s0 + kp ≤ (M.fs j).b.length := by omega
              have r6 := own_same (own_headB F3.out hle) (w' := w6) fun g hg => st6 (F4' _ g hg) (by simp)
              have el : (cutF M.cut (M.fs j)).b.length = s0 + kp := by
                show ((M.fs j).b.take (cutAt M.cut (M.fs j))).length = _
                rw [List.length_take, ← e3]
                omega
              refine ⟨.slice A (s0 + kp) c, ?_, F2.out, ?_, F4' _⟩
              · show Blk w6 (φ j) _ #[.slice A (s0 + kp) c, .int .i64 ((cutAt M.cut (M.fs j) : Nat) : Int)]
                rw [← e3]
                exact hx6
              · rw [el]
                show w6.ownsRow 0 _ 1 _ _ (bv ((M.fs j).b.take (cutAt M.cut (M.fs j))))
                rw [← e3, ← bv_take]
                rw [Nat.mul_one] at r6
                exact r6
            · rw [if_neg hji]
              obtain ⟨v, g1, g2, g3, g4⟩ := HF.out j hj
              exact ⟨v, g1.same (st6 g2 (by intro e; injection e with e; exact hji e)), g2, own_same g3 fun g hg => st6 (g4 g hg) (by simp), g4⟩
          go_roundw
          case measure =>
            show World.rangeLeft w6 bs wc.heap.size < World.rangeLeft wr bs wc.heap.size
            rw [hrg6.left_eq, HRG.out.left_eq]
            exact hlt1
          case rel => first | exact hrel6 | (obtain ⟨lf', c', h1, h2⟩ := hrel6; exact ⟨lf', ⟨c', h1⟩, h2⟩) | exact ⟨_, _, _, _, _, _, _, _, _, _, _, _, _, _, _, _, _, _, _, _, _, _, _, _, _, _, _, _, _, _, _, _, _, _, _, _, _, _, _, _, _, _, _, _, _, _, _, _, _, _, _, hrel6, rfl⟩
        · have f1 : decide (0 ≤ M.cut) = false := decide_eq_false hcut
          rw [if_neg hcut] at hcd
          obtain ⟨kp, hkp⟩ : ∃ x : Nat, x = 0 := ⟨_, rfl⟩
          have HBn : Below w1.heap.size w1 w1 := Below.refl w1.heap.size w1
          have qs : IntKind.i64.wrap ((s0 : Int)) = (s0 : Int) := IntWalk.i64_in _ (by omega)
          subst at0
          have qc := cutw_hB hbT A l0 c (kh := .i64) (hi' := (s0 : Int)) (hi := s0) (by omega) (by omega)
          have HBN := Lib.hid HBn
          have hpw : w1.heap.size = wr.heap.size := hs1
          have HPW := Lib.hid hpw
          clear hpw HBn
          go_upto_region 18 with (fail)
          go_still_tail 14, (by kernel_rfl)
          refine wpList_store_cell rfl 26 (.tmp 116) (.tmp 114) rfl (w := w1.drew) hz.drew (i := 0) (v := .slice A (s0) c) (show 0 < 2 by decide) (by kernel_rfl) rfl rfl rfl ?_
          intro w5 hx5 hg5
          have y0 := hx5.cellv (i := 0) rfl
          go_wp2_with (first
            | ((with_reducible refine gd_store ?_); refine wpList_store_cell rfl 3 (.tmp 124) (.tmp 122) rfl (i := 1) (v := .int .i64 (s0 : Nat)) hx5 (show 1 < 2 by decide) (by kernel_rfl) rfl rfl rfl ?_; intro w6 hx6 hg6)
            | fail)
          have hg16 : w1.grownBy w6 (some (φ i)) := by
            have h1 : w1.grownBy w6 (some (φ i)) := (show w1.grownBy w5 (some (φ i)) from ⟨hg5.os, hg5.tape, hg5.output, hg5.size, hg5.block⟩).trans hg6
            exact grown_via HBN.out h1
          have nbi : bs ≠ φ i := own_ne H.out.os F2.out (by simp)
          have nri : wc.heap.size ≠ φ i := by have := hlo F2.out; omega
          have hrg6 := HRG1.out.kept hg16 (by intro e; injection e with e; exact nbi e) (by intro e; injection e with e; exact nri e)
          have w1s : w1.heap.size = wr.heap.size := hs1
          have st6 : ∀ {b : Nat} {t : Tag}, o b = some (k, t) → t ≠ .file i → w6.heap[b]? = wr.heap[b]? := fun {b t} e ht => (same_of hg16 (by have := hlo e; omega) e (one_some F2.out) ht).trans (ST1.out b _ e)
          have hrel6 : ∃ (lf : Lit → Bool) (cnt : Nat), w6.ranges Try.prog 9 RV bs wc.heap.size N (encM (idT φ (left M))) lf cnt ∧ (∀ i, Live M i → FileAt k φ o w6 i (cutFs M.cut M.fs (left M) lf i)) ∧ (∀ b t, o b = some (k, t) → (∀ i, t ≠ .file i) → w6.heap[b]? = w0.heap[b]?) ∧ Turn k o o w w6 := by
            refine ⟨_, _, hrg6, fun j hj => ?_, fun b t e ht => (st6 e (ht i)).trans (HST.out b t e ht), (HT.out.beyond HG1.out hgr.size).wrote2 hg16 F2.out⟩
            rw [S2.out]
            show FileAt k φ o w6 j (if j = i then cutF M.cut (M.fs i) else cutFs M.cut M.fs (left M) lf j)
            by_cases hji : j = i
            · subst hji
              rw [if_pos rfl]
              obtain ⟨e1, e2, e3⟩ := HLS.out
              have F4' : ∀ n g, (Value.slice A n c).ownBlock = some g → o g = some (k, .byt j) := by
                intro n g hg
                cases A with
                | none => cases hg
                | some a => exact F4.out g hg
              have hle : s0 ≤ (M.fs j).b.length := by omega
              have r6 := own_same (own_headB F3.out hle) (w' := w6) fun g hg => st6 (F4' _ g hg) (by simp)
              have el : (cutF M.cut (M.fs j)).b.length = s0 := by
                show ((M.fs j).b.take (cutAt M.cut (M.fs j))).length = _
                rw [List.length_take, ← e3]
                omega
              refine ⟨.slice A (s0) c, ?_, F2.out, ?_, F4' _⟩
              · show Blk w6 (φ j) _ #[.slice A (s0) c, .int .i64 ((cutAt M.cut (M.fs j) : Nat) : Int)]
                rw [← e3]
                exact hx6
              · rw [el]
                show w6.ownsRow 0 _ 1 _ _ (bv ((M.fs j).b.take (cutAt M.cut (M.fs j))))
                rw [← e3, ← bv_take]
                rw [Nat.mul_one] at r6
                exact r6
            · rw [if_neg hji]
              obtain ⟨v, g1, g2, g3, g4⟩ := HF.out j hj
              exact ⟨v, g1.same (st6 g2 (by intro e; injection e with e; exact hji e)), g2, own_same g3 fun g hg => st6 (g4 g hg) (by simp), g4⟩
          go_roundw
          case measure =>
            show World.rangeLeft w6 bs wc.heap.size < World.rangeLeft wr bs wc.heap.size
            rw [hrg6.left_eq, HRG.out.left_eq]
            exact hlt1
          case rel => first | exact hrel6 | (obtain ⟨lf', c', h1, h2⟩ := hrel6; exact ⟨lf', ⟨c', h1⟩, h2⟩) | exact ⟨_, _, _, _, _, _, _, _, _, _, _, _, _, _, _, _, _, _, _, _, _, _, _, _, _, _, _, _, _, _, _, _, _, _, _, _, _, _, _, _, _, _, _, _, _, _, _, _, _, _, _, hrel6, rfl⟩
end
end Go.Mun
