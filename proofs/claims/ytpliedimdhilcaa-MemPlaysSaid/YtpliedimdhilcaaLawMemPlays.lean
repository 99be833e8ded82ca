/- 'MemPlays' answers true at every input, and leaves what it was given. No condition. -/
import Derived.Test.YtpliedimdhilcaaMemStep
import Derived.Test.YtpliedimdhilcaaSameW
import Derived.Test.YtpliedimdhilcaaRows
import Derived.Test.YtpliedimdhilcaaRegion
namespace Go.Proofs.Ytpliedimdhilcaa.MemPlays
open Go Go.RowKit Go.Mun Go.Proofs

theorem cellx {w w' : World} {ad : Addr} {v : Value} (h : w.cell? ad = some v) (hb : Below w.heap.size w w') : w'.cell? ad = some v := by
  by_cases hl : ad.block < w.heap.size
  · exact (World.cell?_of_block (hb.block _ hl)).trans h
  · unfold World.cell? at h
    rw [Array.getElem?_eq_none (by omega)] at h
    cases h
/-- what each operation of the region writes -/
def SM14 (g L K cr ct : Nat) (Ar At : Option Addr) : Nat → Value → World → Prop
  | 0, v, _ => v = .bool true
  | 1, v, _ => v = .bool false
  | 2, v, _ => v = .bool false
  | 3, v, _ => v = .int .i64 (L : Nat)
  | 4, v, _ => v = .pointer (some ⟨g + 2, 0, none⟩)
  | 5, v, _ => v = .pointer (some ⟨g + 2, 0, none⟩)
  | 6, v, _ => v = .pointer (some ⟨g + 2, 0, none⟩)
  | 7, v, _ => v = .slice Ar L cr
  | 8, v, _ => v = .int .i64 (L : Nat)
  | 9, v, _ => v = .bool false
  | 10, v, _ => v = .bool false
  | 11, v, _ => v = .bool false
  | 12, v, _ => v = .int .i64 (K : Nat)
  | 13, v, _ => v = .pointer (some ⟨g + 3, 0, none⟩)
  | 14, v, _ => v = .pointer (some ⟨g + 3, 0, none⟩)
  | 15, v, _ => v = .pointer (some ⟨g + 3, 0, none⟩)
  | 16, v, _ => v = .slice At K ct
  | 17, v, _ => v = .int .i64 (K : Nat)
  | 18, v, _ => v = .bool false
  | _, v, _ => v = .bool false
theorem SM14_stays (g L K cr ct : Nat) (Ar At : Option Addr) : ∀ i v (wa wb : World), Below wa.heap.size wa wb → SM14 g L K cr ct Ar At i v wa → SM14 g L K cr ct Ar At i v wb
  | 0, _, _, _, _, h => h
  | 1, _, _, _, _, h => h
  | 2, _, _, _, _, h => h
  | 3, _, _, _, _, h => h
  | 4, _, _, _, _, h => h
  | 5, _, _, _, _, h => h
  | 6, _, _, _, _, h => h
  | 7, _, _, _, _, h => h
  | 8, _, _, _, _, h => h
  | 9, _, _, _, _, h => h
  | 10, _, _, _, _, h => h
  | 11, _, _, _, _, h => h
  | 12, _, _, _, _, h => h
  | 13, _, _, _, _, h => h
  | 14, _, _, _, _, h => h
  | 15, _, _, _, _, h => h
  | 16, _, _, _, _, h => h
  | 17, _, _, _, _, h => h
  | 18, _, _, _, _, h => h
  | _ + 19, _, _, _, _, h => h
/-- what each operation of the region writes -/
def SM20 (g K L c7 c8 cr : Nat) (A7 A8 Ar : Option Addr) (bm : List UInt8) : Nat → Value → World → Prop
  | 0, v, _ => v = .bool true
  | 1, v, _ => v = .bool true
  | 2, v, _ => v = .slice A7 K c7
  | 3, v, _ => v = .slice A8 K c8
  | 4, v, _ => v = .bool true
  | 5, v, _ => v = .bool true
  | 6, v, _ => v = .bool true
  | 7, v, _ => v = .int .i64 (L : Nat)
  | 8, v, w => ∃ A' c', v = .slice A' L c' ∧ Bytes w (.slice A' L c') bm
  | 9, v, _ => v = .string ⟨bm.toArray⟩
  | 10, v, _ => v = .pointer (some ⟨g + 2, 0, none⟩)
  | 11, v, _ => v = .pointer (some ⟨g + 2, 0, none⟩)
  | 12, v, _ => v = .pointer (some ⟨g + 2, 0, none⟩)
  | 13, v, _ => v = .slice Ar L cr
  | 14, v, _ => v = .string ⟨bm.toArray⟩
  | 15, v, _ => v = .bool true
  | 16, v, _ => v = .bool true
  | _, v, _ => v = .bool true
theorem SM20_stays (g K L c7 c8 cr : Nat) (A7 A8 Ar : Option Addr) (bm : List UInt8) : ∀ i v (wa wb : World), Below wa.heap.size wa wb → SM20 g K L c7 c8 cr A7 A8 Ar bm i v wa → SM20 g K L c7 c8 cr A7 A8 Ar bm i v wb
  | 0, _, _, _, _, h => h
  | 1, _, _, _, _, h => h
  | 2, _, _, _, _, h => h
  | 3, _, _, _, _, h => h
  | 4, _, _, _, _, h => h
  | 5, _, _, _, _, h => h
  | 6, _, _, _, _, h => h
  | 7, _, _, _, _, h => h
  | 8, _, _, _, hb, ⟨A', c', e, hy⟩ => ⟨A', c', e, hy.ext hb⟩
  | 9, _, _, _, _, h => h
  | 10, _, _, _, _, h => h
  | 11, _, _, _, _, h => h
  | 12, _, _, _, _, h => h
  | 13, _, _, _, _, h => h
  | 14, _, _, _, _, h => h
  | 15, _, _, _, _, h => h
  | 16, _, _, _, _, h => h
  | _ + 17, _, _, _, _, h => h

set_option maxRecDepth 100000 in
set_option maxHeartbeats 4000000 in
theorem walk_long (v : Value) (acts : List ActD) (w : World) (h : SliceOf 68 rAct w v acts) (hn : 100 < acts.length) :
    Calls Try.prog 9 #[v] w fun e w' => e = .returned (.bool true) ∧ Below w.heap.size w w' := by
  have CA := Lib.hid alive13
  obtain ⟨A, n, c, xs, rfl, g1, g2, g3, g4, g5, g6⟩ := h
  have d1 : decide (100 < (n : Int)) = true := decide_eq_true (by omega)
  clear g6
  go_enter Try.func9, Try.ntmps9
  go_wp2_with (first
    | (go_at_call 14; refine (CA.out _).mono ?_; rintro e w1 ⟨rfl, hb1⟩)
    | fail)
  go_ret
  exact ⟨rfl, hb1⟩

set_option maxRecDepth 100000 in
set_option maxHeartbeats 16000000 in
theorem walk (v : Value) (acts : List ActD) (w : World) (h : SliceOf 68 rAct w v acts) (hn : acts.length ≤ 100) :
    Calls Try.prog 9 #[v] w fun e w' => e = .returned (.bool true) ∧ Below w.heap.size w w' := by
  have CA := Lib.hid alive13
  have CS := Lib.hid step_any
  have zM := zMem
  have zS := zStack
  have tkA : True := trivial
  obtain ⟨A, n, c, xs, rfl, g1, g2, g3, g4, g5, g6⟩ := h
  have d1 : decide (100 < (n : Int)) = false := decide_eq_false (by omega)
  have HA := Lib.hid (fun (k : Nat) (hk : k < n) (w' : World) (hb : Below w.heap.size w w') => act_at (g5.ext hb) g1 g2 g6 hk)
  have hn100 : n ≤ 100 := by omega
  clear g1 g2 g5 g6 hn
  have huA := Try.underlying65
  have hiA : ∀ (a b d : Int) (x y : Nat) (v : Value), (Try.prog.info? 65).map (·.size) = some (actL a b d x y v).length := fun a b d x y v => by rw [act_length]; kernel_rfl
  go_enter Try.func9, Try.ntmps9
  go_wp2_with (first
    | (go_at_call 14; refine (CA.out _).mono ?_; rintro e w1 ⟨rfl, hb1⟩)
    | ((with_reducible refine gd_alloc ?_); refine wpList_alloc_one rfl 35 rfl zM ?_; intro w2 hx2 hb2 hl2)
    | ((with_reducible refine gd_alloc ?_); refine wpList_alloc_one rfl 43 rfl zS ?_; intro w3 hx3 hb3 hl3)
    | ((with_reducible refine gd_box ?_); refine wpList_box_one rfl _ (.tmp 23) rfl rfl ?_; intro w4 hx4 hb4 hl4)
    | ((with_reducible refine gd_box ?_); refine wpList_box_one rfl _ (.tmp 25) rfl rfl ?_; intro w5 hx5 hb5 hl5)
    | fail)
  obtain ⟨g, hg⟩ : ∃ g, g = w1.heap.size := ⟨_, rfl⟩
  have q2 : w2.heap.size = g + 1 := by omega
  have q3 : w3.heap.size = g + 2 := by omega
  have q4 : w4.heap.size = g + 3 := by omega
  have q5 : w5.heap.size = g + 4 := by omega
  have hwg : w.heap.size ≤ g := by have := hb1.size; omega
  have hB5 := below_step (below_step (below_step (below_step hb1 hb2) hb3) hb4) hb5
  have hx2' := ((hx2.ext hb3).ext hb4).ext hb5
  have hx3' := (hx3.ext hb4).ext hb5
  have hx4' := hx4.ext hb5
  simp only [← hg, q2, q3, q4] at hx2' hx3' hx4' hx5 ⊢
  simp only [show g + 1 + 1 = g + 2 from rfl, show g + 2 + 1 = g + 3 from rfl] at hx2' hx3' hx4' hx5 ⊢
  have hF0 := FourR.new (by omega) hx2' hx3' hx4' hx5
  clear hx2 hx3 hx4 hx5 hx2' hx3' hx4' hb1 hb2 hb3 hb4 hb5 hl2 hl3 hl4 hl5 hg q2 q3 q4 q5 zM zS
  go_loopw [8] (fun i wr => ∃ (k : Nat) (bm : List UInt8) (ls : List Nat) (q : Nat) (rm rs rr rt : Option Nat), k ≤ n ∧ i = .int .i64 k ∧ FourR wr g bm ls bm ls rm rs rr rt ∧ bm.length = 32 * q ∧ bm.length ≤ 20000 ∧ ls.length ≤ 1024 ∧ Below w.heap.size w wr) (fun i _ => n - (intOf i).toNat)
  case atStart => exact ⟨0, [], [], 0, none, none, none, none, Nat.zero_le _, rfl, hF0, rfl, Nat.zero_le _, Nat.zero_le _, hB5⟩
  case round =>
    clear hF0 hB5
    obtain ⟨k, bm, ls, q, rm, rs, rr, rt, hk, rfl, hF, hq, hbl, hsl, hBr⟩ := hrel
    by_cases hlt : k < n
    · obtain ⟨ad, a, v, rfl, hok, hcells, hc67, hby⟩ := HA.out k hlt wr hBr
      obtain ⟨B, m, c2, hv, _⟩ := id hby
      subst hv
      have hml := Bytes_len hby
      have f1 : decide ((k : Int) < n) = true := decide_eq_true (by omega)
      have b1 : (0 : Int) ≤ k := by omega
      have b2 : (k : Int) < n := by omega
      by_cases hm : 500 < m
      · have f2 : decide (500 < (m : Int)) = true := decide_eq_true (by omega)
        clear hcells
        go_wp2
        go_ret
        exact ⟨rfl, hBr⟩
      · have f2 : decide (500 < (m : Int)) = false := decide_eq_false (by omega)
        have hiA := hiA a.way a.i a.j a.at_ a.n (.slice B m c2)
        have HBY := Lib.hid (fun (w' : World) (hb : Below g wr w') => hby.ext (hBr.trans (hb.mono hwg)))
        go_upto_region 14 with (first
          | ((with_reducible refine gd_load ?_); refine wpList_load_at rfl 65 (.tmp 44) rfl (ad.add (k * 68)) rfl (actL a.way a.i a.j a.at_ a.n (.slice B m c2)) _ hcells huA rfl hiA ?_)
          | (go_at_call 37; refine (CS.out a (.slice B m c2) q wr g bm ls rm rs rr rt hF hq hbl hsl hok HBY.out (by omega)).mono ?_; rintro e w6 ⟨rfl, bm', ls', q', ⟨rm', rs', rr', rt', hF6, hb6⟩, hq', hs'⟩; have hB6 := hBr.trans (hb6.mono hwg))
          | fail)
        clear hcells hc67 hby hok HBY hF hq hbl hsl
        obtain ⟨Ar, cr, hcr, _⟩ := hF6.r.cell
        obtain ⟨At, ct, hct⟩ := hF6.t.cell
        have hF6d := hF6.ext (Below.refl _ _).drew
        have CZ := Lib.hid (fun (w' : World) (hb : Below w6.drew.heap.size w6.drew w') => Size_me (hF6d.ext hb).m)
        have CN := Lib.hid (fun (w' : World) (hb : Below w6.drew.heap.size w6.drew w') => Len_st (hF6d.ext hb).s)
        have HCR := Lib.hid (fun (w' : World) (hb : Below w6.drew.heap.size w6.drew w') => cellx (show w6.drew.cell? ⟨g + 2, 0, none⟩ = _ from hcr) hb)
        have HCT := Lib.hid (fun (w' : World) (hb : Below w6.drew.heap.size w6.drew w') => cellx (show w6.drew.cell? ⟨g + 3, 0, none⟩ = _ from hct) hb)
        have HQ := Lib.hid hq'
        obtain ⟨L, hL⟩ : ∃ L, L = bm'.length := ⟨_, rfl⟩
        obtain ⟨K, hK⟩ : ∃ K, K = ls'.length := ⟨_, rfl⟩
        rw [← hL] at CZ HCR
        rw [← hK] at CN HCT
        have EL := Lib.hid (show ((L : Int) != L) = false by simp)
        have EK := Lib.hid (show ((K : Int) != K) = false by simp)
        replace hL := Lib.hid hL
        clear hcr hct hq' hF6 hK
        refine wp_region_each (by kernel_rfl) (by kernel_rfl) (by kernel_rfl) (fun w w' => Below w.heap.size w w') (fun w => Below.refl _ _) (fun x y z h1 h2 => below_step h1 h2) (SM14 g L K cr ct Ar At) (SM14_stays _ _ _ _ _ _ _) ?_ ?_
        · simp only [EachStep]
          refine ⟨?_, ?_, ?_, ?_, ?_, ?_, ?_, ?_, ?_, ?_, ?_, ?_, ?_, ?_, ?_, ?_, ?_, ?_, ?_, ?_, trivial⟩
          · intro V w' hb hd
            clear hd
            refine ⟨?_⟩
            simp only [fill]
            go_wp2
            exact ⟨rfl, rfl, Below.refl _ _, rfl⟩
          · intro V w' hb hd
            simp only [DepFacts, SM14, Region.binds, forall_const, and_true] at hd
            refine ⟨?_⟩
            simp only [fill, hd]
            clear hd
            go_wp2
            exact ⟨rfl, rfl, Below.refl _ _, rfl⟩
          · intro V w' hb hd
            simp only [DepFacts, SM14, Region.binds, forall_const, and_true] at hd
            refine ⟨?_⟩
            simp only [fill, hd]
            clear hd
            go_wp2
            exact ⟨rfl, rfl, Below.refl _ _, rfl⟩
          · intro V w' hb hd
            simp only [DepFacts, SM14, Region.binds, forall_const, and_true] at hd
            refine ⟨?_⟩
            simp only [fill, hd]
            clear hd
            go_wp2_with (first | (go_at_call 19; refine (CZ.out _ hb).mono ?_; rintro e w9 ⟨rfl, rfl⟩) | fail)
            exact ⟨rfl, rfl, Below.refl _ _, rfl⟩
          · intro V w' hb hd
            simp only [DepFacts, SM14, Region.binds, forall_const, and_true] at hd
            refine ⟨?_⟩
            simp only [fill, hd]
            clear hd
            go_wp2
            exact ⟨rfl, rfl, Below.refl _ _, rfl⟩
          · intro V w' hb hd
            simp only [DepFacts, SM14, Region.binds, forall_const, and_true] at hd
            refine ⟨?_⟩
            simp only [fill, hd]
            clear hd
            go_wp2
            exact ⟨rfl, rfl, Below.refl _ _, rfl⟩
          · intro V w' hb hd
            simp only [DepFacts, SM14, Region.binds, forall_const, and_true] at hd
            refine ⟨?_⟩
            simp only [fill, hd]
            clear hd
            go_wp2
            exact ⟨rfl, rfl, Below.refl _ _, rfl⟩
          · intro V w' hb hd
            have q := HCR.out _ hb
            simp only [DepFacts, SM14, Region.binds, forall_const, and_true] at hd
            refine ⟨?_⟩
            simp only [fill, hd]
            clear hd
            go_wp2
            exact ⟨rfl, rfl, Below.refl _ _, rfl⟩
          · intro V w' hb hd
            simp only [DepFacts, SM14, Region.binds, forall_const, and_true] at hd
            refine ⟨?_⟩
            simp only [fill, hd]
            clear hd
            go_wp2
            exact ⟨rfl, rfl, Below.refl _ _, rfl⟩
          · intro V w' hb hd
            have q := EL.out
            simp only [DepFacts, SM14, Region.binds, forall_const, and_true] at hd
            refine ⟨?_⟩
            simp only [fill, hd]
            clear hd
            go_wp2
            exact ⟨rfl, rfl, Below.refl _ _, rfl⟩
          · intro V w' hb hd
            simp only [DepFacts, SM14, Region.binds, forall_const, and_true] at hd
            refine ⟨?_⟩
            simp only [fill, hd]
            clear hd
            go_wp2
            exact ⟨rfl, rfl, Below.refl _ _, rfl⟩
          · intro V w' hb hd
            simp only [DepFacts, SM14, Region.binds, forall_const, and_true] at hd
            refine ⟨?_⟩
            simp only [fill, hd]
            clear hd
            go_wp2
            exact ⟨rfl, rfl, Below.refl _ _, rfl⟩
          · intro V w' hb hd
            simp only [DepFacts, SM14, Region.binds, forall_const, and_true] at hd
            refine ⟨?_⟩
            simp only [fill, hd]
            clear hd
            go_wp2_with (first | (go_at_call 22; refine (CN.out _ hb).mono ?_; rintro e w9 ⟨rfl, rfl⟩) | fail)
            exact ⟨rfl, rfl, Below.refl _ _, rfl⟩
          · intro V w' hb hd
            simp only [DepFacts, SM14, Region.binds, forall_const, and_true] at hd
            refine ⟨?_⟩
            simp only [fill, hd]
            clear hd
            go_wp2
            exact ⟨rfl, rfl, Below.refl _ _, rfl⟩
          · intro V w' hb hd
            simp only [DepFacts, SM14, Region.binds, forall_const, and_true] at hd
            refine ⟨?_⟩
            simp only [fill, hd]
            clear hd
            go_wp2
            exact ⟨rfl, rfl, Below.refl _ _, rfl⟩
          · intro V w' hb hd
            simp only [DepFacts, SM14, Region.binds, forall_const, and_true] at hd
            refine ⟨?_⟩
            simp only [fill, hd]
            clear hd
            go_wp2
            exact ⟨rfl, rfl, Below.refl _ _, rfl⟩
          · intro V w' hb hd
            have q := HCT.out _ hb
            simp only [DepFacts, SM14, Region.binds, forall_const, and_true] at hd
            refine ⟨?_⟩
            simp only [fill, hd]
            clear hd
            go_wp2
            exact ⟨rfl, rfl, Below.refl _ _, rfl⟩
          · intro V w' hb hd
            simp only [DepFacts, SM14, Region.binds, forall_const, and_true] at hd
            refine ⟨?_⟩
            simp only [fill, hd]
            clear hd
            go_wp2
            exact ⟨rfl, rfl, Below.refl _ _, rfl⟩
          · intro V w' hb hd
            have q := EK.out
            simp only [DepFacts, SM14, Region.binds, forall_const, and_true] at hd
            refine ⟨?_⟩
            simp only [fill, hd]
            clear hd
            go_wp2
            exact ⟨rfl, rfl, Below.refl _ _, rfl⟩
          · intro V w' hb hd
            simp only [DepFacts, SM14, Region.binds, forall_const, and_true] at hd
            refine ⟨?_⟩
            simp only [fill, hd]
            clear hd
            go_wp2
            exact ⟨rfl, rfl, Below.refl _ _, rfl⟩
        · intro V w7 hb7 hV
          simp only [SFacts, SM14, and_true] at hV
          have hcr7 := HCR.out _ hb7
          have hF7 := hF6d.ext hb7
          have hB7 := below_step (below_drew0 hB6) hb7
          simp only [fill, hV]
          try simp only [Exit.then]
          clear hV
          try go_simp
          by_cases hlong : 20000 < L
          · have f3 : decide (20000 < (L : Int)) = true := decide_eq_true (by omega)
            go_wp2
            go_ret
            exact ⟨rfl, hB7⟩
          · have f3 : decide (20000 < (L : Int)) = false := decide_eq_false (by omega)
            go_wp2
            go_roundw
            case rel => exact ⟨k + 1, bm', ls', q', rm', rs', rr', rt', by omega, by go_num, hF7, HQ.out, by have := hL.out; omega, hs', hB7⟩
            case measure => simp [intOf]; omega
    · have f1 : decide ((k : Int) < n) = false := decide_eq_false (by omega)
      have CP := Lib.hid (fun w r hs hbs => Pop_any (ls.length : Int) w (g + 1) (g + 4) ls r (by omega) (by omega) hs (by omega) hbs (by omega))
      have CQ := Lib.hid (fun w r hs hbs => RS.Pop_any (ls.length : Int) w (g + 3) (g + 4) ls r (by omega) (by omega) hs (by omega) hbs (by omega))
      have e1 : popOk ls (ls.length : Int) = true := decide_eq_true (by omega)
      obtain ⟨pw, hpw⟩ : ∃ pw, pw = popW ls (ls.length : Int) := ⟨_, rfl⟩
      have hpl : pw.length ≤ 100000 := by rw [hpw]; have := popW_length ls (ls.length : Int); omega
      rw [e1, ← hpw] at CP CQ
      have CL := Lib.hid (Len_st hF.s)
      obtain ⟨KK, hKK⟩ : ∃ KK, KK = ls.length := ⟨_, rfl⟩
      rw [← hKK] at CP CQ CL
      replace hKK := Lib.hid hKK
      clear hpw e1
      go_upto_region 20 with (first
        | (go_at_call 22; refine CL.out.mono ?_; rintro e w6 ⟨rfl, rfl⟩)
        | (go_at_call 36; refine (CP.out _ _ hF.s hF.sz).mono ?_; rintro e w7 ⟨A7, c7, rfl, ho7, hs7, hy7⟩; have hF7 := hF.setS hs7 hy7.weaken (.inl rfl); obtain ⟨At, ct, hct⟩ := hF7.t.cell; rw [← hKK.out] at hct; have hB7 := hBr.trans (below_way2 hy7 (by omega) (by have := hF.sz; omega) (fun x hx => by cases hx)))
        | (go_at_call 38; refine (CQ.out _ _ hF7.t hF7.sz).mono ?_; rintro e w8 ⟨A8, c8, rfl, ho8, hs8, hy8⟩; have hF8 := hF7.setT hs8 hy8.weaken (.inl rfl); have ho78 := own_way2 ho7 hy8 (by have := hF.sz; omega) (fun x _ e => by cases e); have hB8 := hB7.trans (below_way2 hy8 (by omega) (by have := hF7.sz; omega) (fun x hx => by cases hx)))
        | fail)
      clear ho7 hs7 hy7 hs8 hy8 hF hF7 hct hBr hB7
      obtain ⟨Ar, cr, hcr, hbyr⟩ := hF8.r.cell
      have hF8d := hF8.ext (Below.refl _ _).drew
      have CZ := Lib.hid (fun (w' : World) (hb : Below w8.drew.heap.size w8.drew w') => Size_me (hF8d.ext hb).m)
      have CG := Lib.hid (fun (w' : World) (hb : Below w8.drew.heap.size w8.drew w') => MS.Get_any 0 (bm.length : Int) w' g (g + 4) bm rm (by omega) (by omega) (by omega) (by omega) (hF8d.ext hb).m)
      rw [getL_all bm (by omega)] at CG
      have HCR := Lib.hid (fun (w' : World) (hb : Below w8.drew.heap.size w8.drew w') => cellx (show w8.drew.cell? ⟨g + 2, 0, none⟩ = _ from hcr) hb)
      have HBY := Lib.hid (fun (w' : World) (hb : Below w8.drew.heap.size w8.drew w') => (show Bytes w8.drew _ _ from hbyr).ext hb)
      have H7 := Lib.hid (fun (w' : World) (hb : Below w8.drew.heap.size w8.drew w') => own_ext (own_drew ho78) hb)
      have H8 := Lib.hid (fun (w' : World) (hb : Below w8.drew.heap.size w8.drew w') => own_ext (own_drew ho8) hb)
      have HPL := Lib.hid hpl
      have HS := Lib.hid (fun (w : World) (A : Option Addr) (n c : Nat) (l : List UInt8) (h : Bytes w (.slice A n c) l) => run_str (P := Try.prog) (src := 26) (dst := 9) h Try.underlying26 Try.underlying5 Try.underlying9)
      clear ho78 ho8 hcr hbyr hF8 hpl hq
      refine wp_region_each (by kernel_rfl) (by kernel_rfl) (by kernel_rfl) (fun w w' => Below w.heap.size w w') (fun w => Below.refl _ _) (fun x y z h1 h2 => below_step h1 h2) (SM20 g pw.length bm.length c7 c8 cr A7 A8 Ar bm) (SM20_stays _ _ _ _ _ _ _ _ _ _) ?_ ?_
      · simp only [EachStep]
        refine ⟨?_, ?_, ?_, ?_, ?_, ?_, ?_, ?_, ?_, ?_, ?_, ?_, ?_, ?_, ?_, ?_, ?_, ?_, trivial⟩
        · intro V w' hb hd
          clear hd
          refine ⟨?_⟩
          simp only [fill]
          go_wp2
          exact ⟨rfl, rfl, Below.refl _ _, rfl⟩
        · intro V w' hb hd
          simp only [DepFacts, SM20, Region.binds, forall_const, and_true] at hd
          refine ⟨?_⟩
          simp only [fill, hd]
          clear hd
          go_wp2
          exact ⟨rfl, rfl, Below.refl _ _, rfl⟩
        · intro V w' hb hd
          simp only [DepFacts, SM20, Region.binds, forall_const, and_true] at hd
          refine ⟨?_⟩
          simp only [fill, hd]
          clear hd
          go_wp2
          exact ⟨rfl, rfl, Below.refl _ _, rfl⟩
        · intro V w' hb hd
          simp only [DepFacts, SM20, Region.binds, forall_const, and_true] at hd
          refine ⟨?_⟩
          simp only [fill, hd]
          clear hd
          go_wp2
          exact ⟨rfl, rfl, Below.refl _ _, rfl⟩
        · intro V w' hb hd
          simp only [DepFacts, SM20, Region.binds, forall_const, and_true] at hd
          refine ⟨?_⟩
          simp only [fill, hd]
          clear hd
          go_wp2_with (first | (go_at_call 39; refine (SameWords_self _ _ _ _ _ _ _ _ _ rfl HPL.out (H7.out _ hb) (H8.out _ hb)).mono ?_; rintro e w11 ⟨rfl, hb11⟩) | fail)
          exact ⟨rfl, rfl, hb11, rfl⟩
        · intro V w' hb hd
          simp only [DepFacts, SM20, Region.binds, forall_const, and_true] at hd
          refine ⟨?_⟩
          simp only [fill, hd]
          clear hd
          go_wp2
          exact ⟨rfl, rfl, Below.refl _ _, rfl⟩
        · intro V w' hb hd
          simp only [DepFacts, SM20, Region.binds, forall_const, and_true] at hd
          refine ⟨?_⟩
          simp only [fill, hd]
          clear hd
          go_wp2
          exact ⟨rfl, rfl, Below.refl _ _, rfl⟩
        · intro V w' hb hd
          simp only [DepFacts, SM20, Region.binds, forall_const, and_true] at hd
          refine ⟨?_⟩
          simp only [fill, hd]
          clear hd
          go_wp2_with (first | (go_at_call 19; refine (CZ.out _ hb).mono ?_; rintro e w9 ⟨rfl, rfl⟩) | fail)
          exact ⟨rfl, rfl, Below.refl _ _, rfl⟩
        · intro V w' hb hd
          simp only [DepFacts, SM20, Region.binds, forall_const, and_true] at hd
          refine ⟨?_⟩
          simp only [fill, hd]
          clear hd
          go_wp2_with (first | (go_at_call 33; refine (CG.out _ hb).mono ?_; rintro e w11 ⟨v11, rfl, ho11, hb11⟩) | fail)
          obtain ⟨A', c', rfl, hy11⟩ := row_slice ho11
          exact ⟨rfl, rfl, hb11, A', c', rfl, hy11⟩
        · intro V w' hb hd
          simp only [DepFacts, SM20, Region.binds, forall_const, and_true] at hd
          have h8 : ∃ A' c', V 8 = .slice A' bm.length c' ∧ Bytes w' (.slice A' bm.length c') bm := by first | exact hd.1 | exact hd.2 | exact hd.2.1 | exact hd
          have h6 : V 6 = .bool true := by first | exact hd.1 | exact hd.2 | exact hd.2.1
          clear hd
          obtain ⟨A', c', h8, hby⟩ := h8
          have q := HS.out _ _ _ _ _ hby
          refine ⟨?_⟩
          simp only [fill, h8, h6]
          clear h8 h6
          go_wp2
          exact ⟨rfl, rfl, Below.refl _ _, rfl⟩
        · intro V w' hb hd
          simp only [DepFacts, SM20, Region.binds, forall_const, and_true] at hd
          refine ⟨?_⟩
          simp only [fill, hd]
          clear hd
          go_wp2
          exact ⟨rfl, rfl, Below.refl _ _, rfl⟩
        · intro V w' hb hd
          simp only [DepFacts, SM20, Region.binds, forall_const, and_true] at hd
          refine ⟨?_⟩
          simp only [fill, hd]
          clear hd
          go_wp2
          exact ⟨rfl, rfl, Below.refl _ _, rfl⟩
        · intro V w' hb hd
          simp only [DepFacts, SM20, Region.binds, forall_const, and_true] at hd
          refine ⟨?_⟩
          simp only [fill, hd]
          clear hd
          go_wp2
          exact ⟨rfl, rfl, Below.refl _ _, rfl⟩
        · intro V w' hb hd
          have q := HCR.out _ hb
          simp only [DepFacts, SM20, Region.binds, forall_const, and_true] at hd
          refine ⟨?_⟩
          simp only [fill, hd]
          clear hd
          go_wp2
          exact ⟨rfl, rfl, Below.refl _ _, rfl⟩
        · intro V w' hb hd
          have q := HS.out _ _ _ _ _ (HBY.out _ hb)
          simp only [DepFacts, SM20, Region.binds, forall_const, and_true] at hd
          refine ⟨?_⟩
          simp only [fill, hd]
          clear hd
          go_wp2
          exact ⟨rfl, rfl, Below.refl _ _, rfl⟩
        · intro V w' hb hd
          have q := str_self bm
          simp only [DepFacts, SM20, Region.binds, forall_const, and_true] at hd
          refine ⟨?_⟩
          simp only [fill, hd]
          clear hd
          go_wp2
          exact ⟨rfl, rfl, Below.refl _ _, rfl⟩
        · intro V w' hb hd
          simp only [DepFacts, SM20, Region.binds, forall_const, and_true] at hd
          refine ⟨?_⟩
          simp only [fill, hd]
          clear hd
          go_wp2
          exact ⟨rfl, rfl, Below.refl _ _, rfl⟩
        · intro V w' hb hd
          simp only [DepFacts, SM20, Region.binds, forall_const, and_true] at hd
          refine ⟨?_⟩
          simp only [fill, hd]
          clear hd
          go_wp2
          exact ⟨rfl, rfl, Below.refl _ _, rfl⟩
      · intro V w9 hb9 hV
        simp only [SFacts, SM20, and_true] at hV
        obtain ⟨_, _, _, _, _, _, _, _, _, _, _, _, _, _, _, _, _, h17⟩ := hV
        have hB9 := below_step (below_drew0 hB8) hb9
        simp only [fill, h17]
        try simp only [Exit.then]
        try go_simp
        go_wp2
        go_ret
        exact ⟨rfl, hB9⟩
open Go.ChangeShapes Go.WideShapes Go.ChangeAt

set_option maxRecDepth 100000 in
theorem lifted (os : Os) (started : os.Started) (H : Type) (enc : TypeId × Value → H) :
    ReturnsInHanded {} Try.checked os 9 .any (Rows.memPlaysSpec.pre6 enc Try.prog Try.f9 Rows.memPlaysRow.domain false) (Rows.memPlaysSpec.post enc Try.prog Try.f9 false true false false) := by
  refine law_lift (C := Try.checked) (ts := [57]) (tb := 4) (by kernel_rfl) started (by kernel_rfl) Try.func9
    (ChangeSpec.witness6 (enc := enc) (C := Try.checked) false ⟨#[], #[.slice none 0 0], []⟩ 8 (by kernel_rfl) (by kernel_rfl) (by kernel_rfl) (by kernel_rfl))
    (by kernel_rfl) (by kernel_rfl) (by kernel_rfl) (by kernel_rfl) Try.underlying4 rfl (fun ds h => by match ds, h with | [_], _ => rfl) ?_
  intro W vs hl h
  match vs, hl with
  | [v0], _ =>
    have hl := h 0 _ v0 rfl rfl
    obtain ⟨acts, hl'⟩ := arg_slice Try.underlying57 (by kernel_rfl) (opens_act enc) hl
    by_cases hn : 100 < acts.length
    · exact walk_long _ acts W hl' hn
    · exact walk _ acts W hl' (by omega)

theorem over : Rows.memPlaysRow.holds Try.pinned (OpenSpec.ofChange Rows.memPlaysSpec) :=
  OpenClaim.holds_of_wide 9 Try.f9 rfl rfl rfl rfl rfl rfl rfl ⟨rfl, rfl, rfl, rfl, rfl⟩ rfl rfl rfl rfl rfl (by kernel_rfl) Try.func9 (by kernel_rfl)
    (of_decide_eq_true (by kernel_rfl)) (by unfold Func.isWrapper; first | (rw [if_pos (by decide +kernel)]; kernel_rfl) | (rw [if_neg (by decide +kernel)]; exact ⟨rfl, rfl⟩))
    (fun os started H enc _ => lifted os started H enc)
end Go.Proofs.Ytpliedimdhilcaa.MemPlays
namespace Go.Proofs.Ytpliedimdhilcaa
theorem memPlays_holds : Rows.MemPlaysSaid := MemPlays.over
#print axioms memPlays_holds
end Go.Proofs.Ytpliedimdhilcaa
