/- Rows of the same pairs are told to be so. -/
import Derived.Test.YtmaaejicfpfcdaaPairRow
import Derived.Test.YtmaaejicfpfcdaaRpSame
import Derived.Test.YtmaaejicfpfcdaaRegion
import Derived.Deep.Cut
namespace Go.Mun
open Go Go.RowKit Go.Proofs

theorem str_nes (l : List UInt8) : ((⟨l.toArray⟩ : ByteArray) != ⟨l.toArray⟩) = false := by rw [str_ne]; simp
theorem pair_at {w w' : World} {A : Option Addr} {n : Nat} {xs : List Value} {P : PL (List UInt8)} (hr : Rd w' A xs) (hl : P.length = n) (_hx : xs.length = n * 2) (hb : ∀ i (h : i < P.length), rPair w (chunk xs 2 i) P[i]) {k : Nat} (hk : k < n) :
    ∃ (ad : Addr) (p : PairB) (kv vv : Value), A = some ad ∧ w'.cell? (ad.add (k * 2)) = some kv ∧ w'.cell? ⟨(ad.add (k * 2)).block, (ad.add (k * 2)).off + 1, none⟩ = some vv ∧ P[k]? = some p ∧ Bytes w kv p.1 ∧ Bytes w vv p.2 := by
  obtain ⟨kv, vv, e, h1, h2⟩ := hb k (by omega)
  have hg : ∀ j, j < 2 → xs[k * 2 + j]? = (chunk xs 2 k)[j]? := fun j hj => by
    unfold chunk
    rw [List.getElem?_take, if_pos hj, List.getElem?_drop]
  obtain ⟨ad, rfl, c0⟩ := hr (k * 2) kv (by have := hg 0 (by omega); rw [Nat.add_zero] at this; rw [this, e]; rfl)
  obtain ⟨ad', e1, c1⟩ := hr (k * 2 + 1) vv (by rw [hg 1 (by omega), e]; rfl)
  injection e1 with e1
  subst e1
  rw [add_beside _ _ (by omega)] at c1
  exact ⟨_, P[k], kv, vv, rfl, c0, c1, List.getElem?_eq_getElem (by omega), h1, h2⟩
/-- what each operation of the region writes -/
def SSP (ad1 ad2 : Addr) (n c1 c2 k : Nat) (x1 x2 y1 y2 : Value) (key val : List UInt8) : Nat → Value → World → Prop
  | 0, v, _ => v = .slice (some ad1) n c1
  | 1, v, _ => v = .int .i64 (k : Nat)
  | 2, v, _ => v = .pointer (some (ad1.add (k * 2)))
  | 3, v, _ => v = .pointer (some (ad1.add (k * 2)))
  | 4, v, _ => v = x1
  | 5, v, _ => v = .string ⟨key.toArray⟩
  | 6, v, _ => v = .slice (some ad2) n c2
  | 7, v, _ => v = .int .i64 (k : Nat)
  | 8, v, _ => v = .pointer (some (ad2.add (k * 2)))
  | 9, v, _ => v = .pointer (some (ad2.add (k * 2)))
  | 10, v, _ => v = x2
  | 11, v, _ => v = .string ⟨key.toArray⟩
  | 12, v, _ => v = .bool false
  | 13, v, _ => v = .bool false
  | 14, v, _ => v = .slice (some ad1) n c1
  | 15, v, _ => v = .int .i64 (k : Nat)
  | 16, v, _ => v = .pointer (some (ad1.add (k * 2)))
  | 17, v, _ => v = .pointer (some ⟨(ad1.add (k * 2)).block, (ad1.add (k * 2)).off + 1, none⟩)
  | 18, v, _ => v = y1
  | 19, v, _ => v = .string ⟨val.toArray⟩
  | 20, v, _ => v = .slice (some ad2) n c2
  | 21, v, _ => v = .int .i64 (k : Nat)
  | 22, v, _ => v = .pointer (some (ad2.add (k * 2)))
  | 23, v, _ => v = .pointer (some ⟨(ad2.add (k * 2)).block, (ad2.add (k * 2)).off + 1, none⟩)
  | 24, v, _ => v = y2
  | 25, v, _ => v = .string ⟨val.toArray⟩
  | 26, v, _ => v = .bool false
  | _, v, _ => v = .bool false
theorem SSP_stays (ad1 ad2 : Addr) (n c1 c2 k : Nat) (x1 x2 y1 y2 : Value) (key val : List UInt8) : ∀ i v (wa wb : World), Below wa.heap.size wa wb → SSP ad1 ad2 n c1 c2 k x1 x2 y1 y2 key val i v wa → SSP ad1 ad2 n c1 c2 k x1 x2 y1 y2 key val i v wb
  | 0, _, _, _, _, h => h
  | 1, _, _, _, _, h => h
  | 2, _, _, _, _, h => h
  | 3, _, _, _, _, h => h
  | 4, _, _, _, _, h => h
  | 5, _, _, _, _, h => h
  | 6, _, _, _, _, h => h
  | 7, _, _, _, _, h => h
  | 8, _, _, _, _, h => h
  | 9, _, _, _, _, h => h
  | 10, _, _, _, _, h => h
  | 11, _, _, _, _, h => h
  | 12, _, _, _, _, h => h
  | 13, _, _, _, _, h => h
  | 14, _, _, _, _, h => h
  | 15, _, _, _, _, h => h
  | 16, _, _, _, _, h => h
  | 17, _, _, _, _, h => h
  | 18, _, _, _, _, h => h
  | 19, _, _, _, _, h => h
  | 20, _, _, _, _, h => h
  | 21, _, _, _, _, h => h
  | 22, _, _, _, _, h => h
  | 23, _, _, _, _, h => h
  | 24, _, _, _, _, h => h
  | 25, _, _, _, _, h => h
  | 26, _, _, _, _, h => h
  | _ + 27, _, _, _, _, h => h

set_option maxRecDepth 100000 in
set_option maxHeartbeats 4000000 in
theorem SamePairs_true (va vb : Value) (P : PL (List UInt8)) (w : World) (ha : SliceOf 2 rPair w va P) (hb : SliceOf 2 rPair w vb P) :
    Calls Try.prog 34 #[va, vb] w fun e w' => e = .returned (.bool true) ∧ Below w.heap.size w w' := by
  obtain ⟨A1, n, c1, xs, rfl, g1, g2, g3, g4, g5, g6⟩ := ha
  obtain ⟨A2, n', c2, ys, rfl, i1, i2, i3, i4, i5, i6⟩ := hb
  have hnn : n' = n := by omega
  subst hnn
  unfold maxLen at g4 i4
  have HS := Lib.hid (fun (w : World) (A : Option Addr) (n c : Nat) (l : List UInt8) (h : Bytes w (.slice A n c) l) => run_str (P := Try.prog) (src := 24) (dst := 9) h Try.underlying24 Try.underlying5 Try.underlying9)
  have dn : ((n' : Int) != n') = false := by simp
  go_enter Try.func34, Try.ntmps34
  go_wp2
  go_loopw [5] (fun i wr => ∃ k : Nat, k ≤ n' ∧ i = .int .i64 k ∧ Below w.heap.size w wr) (fun i _ => n' - (RowKit.intOf i).toNat)
  case atStart => exact ⟨0, Nat.zero_le _, rfl, Below.refl _ _⟩
  case round =>
    obtain ⟨k, hk, rfl, hBr⟩ := hrel
    by_cases hlt : k < n'
    · clear hk
      obtain ⟨ad1, p, kv1, vv1, rfl, p0, p1, hp, b1, b2⟩ := pair_at (g5.ext hBr) g1 g2 g6 hlt
      obtain ⟨ad2, p', kv2, vv2, rfl, r0, r1, hp', b3, b4⟩ := pair_at (i5.ext hBr) i1 i2 i6 hlt
      have epp : p' = p := by rw [hp] at hp'; injection hp' with hp'; exact hp'.symm
      subst epp
      obtain ⟨key, val⟩ := p'
      simp only at b1 b2 b3 b4
      obtain ⟨AK1, nk1, cK1, h1, _⟩ := id b1
      subst h1
      obtain ⟨AV1, nv1, cV1, h1, _⟩ := id b2
      subst h1
      obtain ⟨AK2, nk2, cK2, h1, _⟩ := id b3
      subst h1
      obtain ⟨AV2, nv2, cV2, h1, _⟩ := id b4
      subst h1
      have HB1 := Lib.hid (And.intro b1 b2)
      have HB2 := Lib.hid (And.intro b3 b4)
      clear hp hp' b1 b2 b3 b4
      have f1 : decide ((k : Int) < n') = true := decide_eq_true (by omega)
      have z1 : (0 : Int) ≤ k := by omega
      have z2 : (k : Int) < n' := by omega
      go_upto_region 6 with (fail)
      replace p0 := cell_drew p0
      replace r0 := cell_drew r0
      replace p1 := cell_drew p1
      replace r1 := cell_drew r1
      refine wp_region_each (by kernel_rfl) (by kernel_rfl) (by kernel_rfl) (fun w w' => Below w.heap.size w w') (fun w => Below.refl _ _) (fun x y z h1 h2 => below_step h1 h2) (SSP ad1 ad2 n' c1 c2 k (.slice AK1 nk1 cK1) (.slice AK2 nk2 cK2) (.slice AV1 nv1 cV1) (.slice AV2 nv2 cV2) key val) (SSP_stays _ _ _ _ _ _ _ _ _ _ _ _) ?_ ?_
      · simp only [EachStep]
        refine ⟨?_, ?_, ?_, ?_, ?_, ?_, ?_, ?_, ?_, ?_, ?_, ?_, ?_, ?_, ?_, ?_, ?_, ?_, ?_, ?_, ?_, ?_, ?_, ?_, ?_, ?_, ?_, ?_, trivial⟩
        · intro V w' hb hd
          clear hd
          refine ⟨?_⟩
          simp only [fill]
          go_wp2
          exact ⟨rfl, rfl, Below.refl _ _, rfl⟩
        · intro V w' hb hd
          clear hd
          refine ⟨?_⟩
          simp only [fill]
          go_wp2
          exact ⟨rfl, rfl, Below.refl _ _, rfl⟩
        · intro V w' hb hd
          simp only [DepFacts, SSP, Region.binds, forall_const, and_true] at hd
          refine ⟨?_⟩
          simp only [fill, hd]
          clear hd
          go_wp2
          exact ⟨rfl, rfl, Below.refl _ _, rfl⟩
        · intro V w' hb hd
          simp only [DepFacts, SSP, Region.binds, forall_const, and_true] at hd
          refine ⟨?_⟩
          simp only [fill, hd]
          clear hd
          go_wp2
          exact ⟨rfl, rfl, Below.refl _ _, rfl⟩
        · intro V w' hb hd
          have q := cell_ext hb p0
          simp only [DepFacts, SSP, Region.binds, forall_const, and_true] at hd
          refine ⟨?_⟩
          simp only [fill, hd]
          clear hd
          go_wp2
          exact ⟨rfl, rfl, Below.refl _ _, rfl⟩
        · intro V w' hb hd
          have q := HS.out _ _ _ _ _ (HB1.out.1.ext (below_step (below_drew hBr) hb))
          simp only [DepFacts, SSP, Region.binds, forall_const, and_true] at hd
          refine ⟨?_⟩
          simp only [fill, hd]
          clear hd
          go_wp2
          exact ⟨rfl, rfl, Below.refl _ _, rfl⟩
        · intro V w' hb hd
          clear hd
          refine ⟨?_⟩
          simp only [fill]
          go_wp2
          exact ⟨rfl, rfl, Below.refl _ _, rfl⟩
        · intro V w' hb hd
          clear hd
          refine ⟨?_⟩
          simp only [fill]
          go_wp2
          exact ⟨rfl, rfl, Below.refl _ _, rfl⟩
        · intro V w' hb hd
          simp only [DepFacts, SSP, Region.binds, forall_const, and_true] at hd
          refine ⟨?_⟩
          simp only [fill, hd]
          clear hd
          go_wp2
          exact ⟨rfl, rfl, Below.refl _ _, rfl⟩
        · intro V w' hb hd
          simp only [DepFacts, SSP, Region.binds, forall_const, and_true] at hd
          refine ⟨?_⟩
          simp only [fill, hd]
          clear hd
          go_wp2
          exact ⟨rfl, rfl, Below.refl _ _, rfl⟩
        · intro V w' hb hd
          have q := cell_ext hb r0
          simp only [DepFacts, SSP, Region.binds, forall_const, and_true] at hd
          refine ⟨?_⟩
          simp only [fill, hd]
          clear hd
          go_wp2
          exact ⟨rfl, rfl, Below.refl _ _, rfl⟩
        · intro V w' hb hd
          have q := HS.out _ _ _ _ _ (HB2.out.1.ext (below_step (below_drew hBr) hb))
          simp only [DepFacts, SSP, Region.binds, forall_const, and_true] at hd
          refine ⟨?_⟩
          simp only [fill, hd]
          clear hd
          go_wp2
          exact ⟨rfl, rfl, Below.refl _ _, rfl⟩
        · intro V w' hb hd
          have q := str_nes key
          simp only [DepFacts, SSP, Region.binds, forall_const, and_true] at hd
          refine ⟨?_⟩
          simp only [fill, hd]
          clear hd
          go_wp2
          exact ⟨rfl, rfl, Below.refl _ _, rfl⟩
        · intro V w' hb hd
          simp only [DepFacts, SSP, Region.binds, forall_const, and_true] at hd
          refine ⟨?_⟩
          simp only [fill, hd]
          clear hd
          go_wp2
          exact ⟨rfl, rfl, Below.refl _ _, rfl⟩
        · intro V w' hb hd
          simp only [DepFacts, SSP, Region.binds, forall_const, and_true] at hd
          refine ⟨?_⟩
          simp only [fill, hd]
          clear hd
          go_wp2
          exact ⟨rfl, rfl, Below.refl _ _, rfl⟩
        · intro V w' hb hd
          simp only [DepFacts, SSP, Region.binds, forall_const, and_true] at hd
          refine ⟨?_⟩
          simp only [fill, hd]
          clear hd
          go_wp2
          exact ⟨rfl, rfl, Below.refl _ _, rfl⟩
        · intro V w' hb hd
          simp only [DepFacts, SSP, Region.binds, forall_const, and_true] at hd
          refine ⟨?_⟩
          simp only [fill, hd]
          clear hd
          go_wp2
          exact ⟨rfl, rfl, Below.refl _ _, rfl⟩
        · intro V w' hb hd
          simp only [DepFacts, SSP, Region.binds, forall_const, and_true] at hd
          refine ⟨?_⟩
          simp only [fill, hd]
          clear hd
          go_wp2
          exact ⟨rfl, rfl, Below.refl _ _, rfl⟩
        · intro V w' hb hd
          have q := cell_ext hb p1
          simp only [DepFacts, SSP, Region.binds, forall_const, and_true] at hd
          refine ⟨?_⟩
          simp only [fill, hd]
          clear hd
          go_wp2
          exact ⟨rfl, rfl, Below.refl _ _, rfl⟩
        · intro V w' hb hd
          have q := HS.out _ _ _ _ _ (HB1.out.2.ext (below_step (below_drew hBr) hb))
          simp only [DepFacts, SSP, Region.binds, forall_const, and_true] at hd
          refine ⟨?_⟩
          simp only [fill, hd]
          clear hd
          go_wp2
          exact ⟨rfl, rfl, Below.refl _ _, rfl⟩
        · intro V w' hb hd
          simp only [DepFacts, SSP, Region.binds, forall_const, and_true] at hd
          refine ⟨?_⟩
          simp only [fill, hd]
          clear hd
          go_wp2
          exact ⟨rfl, rfl, Below.refl _ _, rfl⟩
        · intro V w' hb hd
          simp only [DepFacts, SSP, Region.binds, forall_const, and_true] at hd
          refine ⟨?_⟩
          simp only [fill, hd]
          clear hd
          go_wp2
          exact ⟨rfl, rfl, Below.refl _ _, rfl⟩
        · intro V w' hb hd
          simp only [DepFacts, SSP, Region.binds, forall_const, and_true] at hd
          refine ⟨?_⟩
          simp only [fill, hd]
          clear hd
          go_wp2
          exact ⟨rfl, rfl, Below.refl _ _, rfl⟩
        · intro V w' hb hd
          simp only [DepFacts, SSP, Region.binds, forall_const, and_true] at hd
          refine ⟨?_⟩
          simp only [fill, hd]
          clear hd
          go_wp2
          exact ⟨rfl, rfl, Below.refl _ _, rfl⟩
        · intro V w' hb hd
          have q := cell_ext hb r1
          simp only [DepFacts, SSP, Region.binds, forall_const, and_true] at hd
          refine ⟨?_⟩
          simp only [fill, hd]
          clear hd
          go_wp2
          exact ⟨rfl, rfl, Below.refl _ _, rfl⟩
        · intro V w' hb hd
          have q := HS.out _ _ _ _ _ (HB2.out.2.ext (below_step (below_drew hBr) hb))
          simp only [DepFacts, SSP, Region.binds, forall_const, and_true] at hd
          refine ⟨?_⟩
          simp only [fill, hd]
          clear hd
          go_wp2
          exact ⟨rfl, rfl, Below.refl _ _, rfl⟩
        · intro V w' hb hd
          have q := str_nes val
          simp only [DepFacts, SSP, Region.binds, forall_const, and_true] at hd
          refine ⟨?_⟩
          simp only [fill, hd]
          clear hd
          go_wp2
          exact ⟨rfl, rfl, Below.refl _ _, rfl⟩
        · intro V w' hb hd
          simp only [DepFacts, SSP, Region.binds, forall_const, and_true] at hd
          refine ⟨?_⟩
          simp only [fill, hd]
          clear hd
          go_wp2
          exact ⟨rfl, rfl, Below.refl _ _, rfl⟩
      · intro V w12 hb12 hV
        simp only [SFacts, SSP] at hV
        have h27 := hV.2.2.2.2.2.2.2.2.2.2.2.2.2.2.2.2.2.2.2.2.2.2.2.2.2.2.2.1
        clear hV
        have hB12 := below_step (below_drew hBr) hb12
        simp only [fill, h27]
        try simp only [Exit.then]
        try go_simp
        go_wp2
        go_roundw
        case rel => exact ⟨k + 1, by omega, by go_num, hB12⟩
        case measure => simp [RowKit.intOf]; omega
    · obtain rfl : k = n' := by omega
      have f1 : decide ((k : Int) < k) = false := decide_eq_false (by omega)
      go_wp2
      go_ret
      exact ⟨rfl, hBr⟩
end Go.Mun
