/- Lists of changes, and of batches, that are the same are told to be so. -/
import Derived.Test.YtmaaejicfpfcdaaRpStays
import Derived.Test.YtmaaejicfpfcdaaRecSame
import Derived.Test.YtmaaejicfpfcdaaRegion
import Derived.Deep.Cut
namespace Go.Mun
open Go Go.RowKit Go.Proofs

theorem below_drew {B : Nat} {w0 w : World} (h : Below B w0 w) : Below B w0 w.drew := h.drew
theorem cell_drew {w : World} {a : Addr} {v : Value} (h : w.cell? a = some v) : w.drew.cell? a = some v := h
/-- the same changes, as the document compares them -/
def sameOp (x y : Rec) : Bool := x.del == y.del && (decide (x.key = y.key) && (x.del || decide (x.value = y.value)))
def SameL (l m : List Rec) : Prop := l.length = m.length ∧ ∀ (k : Nat) (x y : Rec), l[k]? = some x → m[k]? = some y → sameOp x y = true
def SameLL (l m : List (List Rec)) : Prop := l.length = m.length ∧ ∀ (k : Nat) (x y : List Rec), l[k]? = some x → m[k]? = some y → SameL x y
theorem sameOp_self (x : Rec) : sameOp x x = true := by simp [sameOp]
theorem SameL.refl (l : List Rec) : SameL l l := ⟨rfl, fun k x y h1 h2 => by rw [h1] at h2; injection h2 with h2; rw [h2]; exact sameOp_self y⟩
theorem SameLL.refl (l : List (List Rec)) : SameLL l l := ⟨rfl, fun k x y h1 h2 => by rw [h1] at h2; injection h2 with h2; rw [h2]; exact SameL.refl y⟩
theorem rOp_stays : rOp.Stays := fun w w' cs r hb h hl => by
  obtain ⟨kv, vv, h1, h2, h3, h4, h5⟩ := h hl
  exact ⟨kv, vv, h1, h2, h3, h4.ext hb, h5.ext hb⟩
/-- the same, with the change itself -/
theorem op_at' {w w' : World} {A : Option Addr} {n : Nat} {xs : List Value} {rs : List Rec} (hr : Rd w' A xs) (hl : rs.length = n) (hx : xs.length = n * 3) (hb : ∀ i (h : i < rs.length), rOp w (chunk xs 3 i) rs[i]) {k : Nat} (hk : k < n) :
    ∃ (ad : Addr) (r : Rec) (kv vv : Value), A = some ad ∧ w'.cell? (ad.add (k * 3)) = some (.bool r.del) ∧ w'.cell? ⟨(ad.add (k * 3)).block, (ad.add (k * 3)).off + 1, none⟩ = some kv ∧ w'.cell? ⟨(ad.add (k * 3)).block, (ad.add (k * 3)).off + 2, none⟩ = some vv ∧
      rs[k]? = some r ∧ Bytes w kv r.key ∧ Bytes w vv r.value := by
  have hc : (chunk xs 3 k).length = 3 := by unfold chunk; rw [List.length_take, List.length_drop]; omega
  obtain ⟨kv, vv, e, h1, h2, h3, h4⟩ := hb k (by omega) hc
  have hg : ∀ j, j < 3 → xs[k * 3 + j]? = (chunk xs 3 k)[j]? := fun j hj => by
    unfold chunk
    rw [List.getElem?_take, if_pos hj, List.getElem?_drop]
  obtain ⟨ad, rfl, c0⟩ := hr (k * 3) _ (by have := hg 0 (by omega); rw [Nat.add_zero] at this; rw [this, e]; rfl)
  obtain ⟨ad', e1, c1⟩ := hr (k * 3 + 1) kv (by rw [hg 1 (by omega), e]; rfl)
  obtain ⟨ad'', e2, c2⟩ := hr (k * 3 + 2) vv (by rw [hg 2 (by omega), e]; rfl)
  injection e1 with e1
  injection e2 with e2
  subst e1 e2
  rw [add_beside _ _ (by omega)] at c1 c2
  exact ⟨_, rs[k], kv, vv, rfl, c0, c1, c2, List.getElem?_eq_getElem (by omega), h3, h4⟩
theorem out_at {w w' : World} {A : Option Addr} {n : Nat} {xs : List Value} {ls : List (List Rec)} (hr : Rd w' A xs) (hl : ls.length = n) (hx : xs.length = n * 1) (hb : ∀ i (h : i < ls.length), rSlice 3 rOp w (chunk xs 1 i) ls[i]) {k : Nat} (hk : k < n) :
    ∃ (ad : Addr) (v : Value) (l : List Rec), A = some ad ∧ w'.cell? (ad.add k) = some v ∧ ls[k]? = some l ∧ SliceOf 3 rOp w v l := by
  obtain ⟨v, e, h⟩ := hb k (by omega)
  have hg : xs[k]? = some v := by
    have : (chunk xs 1 k)[0]? = some v := by rw [e]; rfl
    unfold chunk at this
    rwa [List.getElem?_take, if_pos (by omega), List.getElem?_drop, Nat.mul_one, Nat.add_zero] at this
  obtain ⟨ad, rfl, c0⟩ := hr k v hg
  exact ⟨ad, v, ls[k], rfl, c0, List.getElem?_eq_getElem (by omega), h⟩

/-- what each operation of the region writes -/
def SSO (ad1 ad2 : Addr) (n c1 c2 k : Nat) (x1 x2 : Value) : Nat → Value → World → Prop
  | 0, v, _ => v = .slice (some ad1) n c1
  | 1, v, _ => v = .int .i64 (k : Nat)
  | 2, v, _ => v = .pointer (some (ad1.add (k * 3)))
  | 3, v, _ => v = x1
  | 4, v, _ => v = .slice (some ad2) n c2
  | 5, v, _ => v = .int .i64 (k : Nat)
  | 6, v, _ => v = .pointer (some (ad2.add (k * 3)))
  | 7, v, _ => v = x2
  | 8, v, _ => v = .bool true
  | _, v, _ => v = .bool false
theorem SSO_stays (ad1 ad2 : Addr) (n c1 c2 k : Nat) (x1 x2 : Value) : ∀ i v (wa wb : World), Below wa.heap.size wa wb → SSO ad1 ad2 n c1 c2 k x1 x2 i v wa → SSO ad1 ad2 n c1 c2 k x1 x2 i v wb
  | 0, _, _, _, _, h => h
  | 1, _, _, _, _, h => h
  | 2, _, _, _, _, h => h
  | 3, _, _, _, _, h => h
  | 4, _, _, _, _, h => h
  | 5, _, _, _, _, h => h
  | 6, _, _, _, _, h => h
  | 7, _, _, _, _, h => h
  | 8, _, _, _, _, h => h
  | _ + 9, _, _, _, _, h => h
/-- what each operation of the region writes -/
def SBA (ad1 ad2 : Addr) (n c1 c2 k : Nat) (x1 x2 : Value) : Nat → Value → World → Prop
  | 0, v, _ => v = .slice (some ad1) n c1
  | 1, v, _ => v = .int .i64 (k : Nat)
  | 2, v, _ => v = .pointer (some (ad1.add k))
  | 3, v, _ => v = x1
  | 4, v, _ => v = .slice (some ad2) n c2
  | 5, v, _ => v = .int .i64 (k : Nat)
  | 6, v, _ => v = .pointer (some (ad2.add k))
  | 7, v, _ => v = x2
  | 8, v, _ => v = .bool true
  | _, v, _ => v = .bool false
theorem SBA_stays (ad1 ad2 : Addr) (n c1 c2 k : Nat) (x1 x2 : Value) : ∀ i v (wa wb : World), Below wa.heap.size wa wb → SBA ad1 ad2 n c1 c2 k x1 x2 i v wa → SBA ad1 ad2 n c1 c2 k x1 x2 i v wb
  | 0, _, _, _, _, h => h
  | 1, _, _, _, _, h => h
  | 2, _, _, _, _, h => h
  | 3, _, _, _, _, h => h
  | 4, _, _, _, _, h => h
  | 5, _, _, _, _, h => h
  | 6, _, _, _, _, h => h
  | 7, _, _, _, _, h => h
  | 8, _, _, _, _, h => h
  | _ + 9, _, _, _, _, h => h

set_option maxRecDepth 100000 in
set_option maxHeartbeats 4000000 in
theorem SameOps_true (va vb : Value) (l m : List Rec) (w : World) (ha : SliceOf 3 rOp w va l) (hb : SliceOf 3 rOp w vb m) (hs : SameL l m) :
    Calls Try.prog 38 #[va, vb] w fun e w' => e = .returned (.bool true) ∧ Below w.heap.size w w' := by
  obtain ⟨A1, n, c1, xs, rfl, g1, g2, g3, g4, g5, g6⟩ := ha
  obtain ⟨A2, n', c2, ys, rfl, i1, i2, i3, i4, i5, i6⟩ := hb
  obtain ⟨hle, HSA⟩ := hs
  have hnn : n' = n := by omega
  subst hnn
  replace HSA := Lib.hid HSA
  unfold maxLen at g4 i4
  go_enter Try.func38, Try.ntmps38
  go_wp2
  go_loopw [5] (fun i wr => ∃ k : Nat, k ≤ n' ∧ i = .int .i64 k ∧ Below w.heap.size w wr) (fun i _ => n' - (intOf i).toNat)
  case atStart => exact ⟨0, Nat.zero_le _, rfl, Below.refl _ _⟩
  case round =>
    obtain ⟨k, hk, rfl, hBr⟩ := hrel
    by_cases hlt : k < n'
    · clear hk
      obtain ⟨ad1, x, kv1, vv1, rfl, p0, p1, p2, hx, b1, b2⟩ := op_at' (g5.ext hBr) g1 g2 g6 hlt
      obtain ⟨ad2, y, kv2, vv2, rfl, r0, r1, r2, hy, b3, b4⟩ := op_at' (i5.ext hBr) i1 i2 i6 hlt
      have HB1 := Lib.hid (And.intro b1 b2)
      have HB2 := Lib.hid (And.intro b3 b4)
      have HS := Lib.hid (show (x.del == y.del && (decide (x.key = y.key) && (x.del || decide (x.value = y.value)))) = true from HSA.out k x y hx hy)
      clear hx hy b1 b2 b3 b4
      go_upto_region 6 with (fail)
      replace p0 := cell_drew p0
      replace r0 := cell_drew r0
      replace p1 := cell_drew p1
      replace p2 := cell_drew p2
      replace r1 := cell_drew r1
      replace r2 := cell_drew r2
      refine wp_region_each (by kernel_rfl) (by kernel_rfl) (by kernel_rfl) (fun w w' => Below w.heap.size w w') (fun w => Below.refl _ _) (fun x y z h1 h2 => below_step h1 h2) (SSO ad1 ad2 n' c1 c2 k (.agg #[.bool x.del, kv1, vv1]) (.agg #[.bool y.del, kv2, vv2])) (SSO_stays _ _ _ _ _ _ _ _) ?_ ?_
      · simp only [EachStep]
        refine ⟨?_, ?_, ?_, ?_, ?_, ?_, ?_, ?_, ?_, ?_, trivial⟩
        · intro V w' hb hd
          clear hd
          refine ⟨?_⟩
          simp only [fill]
          go_wp2
          exact ⟨rfl, rfl, Below.refl _ _, rfl⟩
        · intro V w' hb hd
          clear hd
          refine ⟨?_⟩
          simp only [fill]
          go_wp2
          exact ⟨rfl, rfl, Below.refl _ _, rfl⟩
        · intro V w' hb hd
          simp only [DepFacts, SSO, Region.binds, forall_const, and_true] at hd
          refine ⟨?_⟩
          simp only [fill, hd]
          clear hd
          go_wp2
          exact ⟨rfl, rfl, Below.refl _ _, rfl⟩
        · intro V w' hb hd
          have q0 := cell_ext hb p0
          have q1 := cell_ext hb p1
          have q2 := cell_ext hb p2
          simp only [DepFacts, SSO, Region.binds, forall_const, and_true] at hd
          refine ⟨?_⟩
          simp only [fill, hd]
          clear hd
          go_wp2
          exact ⟨rfl, rfl, Below.refl _ _, rfl⟩
        · intro V w' hb hd
          clear hd
          refine ⟨?_⟩
          simp only [fill]
          go_wp2
          exact ⟨rfl, rfl, Below.refl _ _, rfl⟩
        · intro V w' hb hd
          clear hd
          refine ⟨?_⟩
          simp only [fill]
          go_wp2
          exact ⟨rfl, rfl, Below.refl _ _, rfl⟩
        · intro V w' hb hd
          simp only [DepFacts, SSO, Region.binds, forall_const, and_true] at hd
          refine ⟨?_⟩
          simp only [fill, hd]
          clear hd
          go_wp2
          exact ⟨rfl, rfl, Below.refl _ _, rfl⟩
        · intro V w' hb hd
          have q0 := cell_ext hb r0
          have q1 := cell_ext hb r1
          have q2 := cell_ext hb r2
          simp only [DepFacts, SSO, Region.binds, forall_const, and_true] at hd
          refine ⟨?_⟩
          simp only [fill, hd]
          clear hd
          go_wp2
          exact ⟨rfl, rfl, Below.refl _ _, rfl⟩
        · intro V w' hb hd
          have hBw := below_step (below_drew hBr) hb
          simp only [DepFacts, SSO, Region.binds, forall_const, and_true] at hd
          refine ⟨?_⟩
          simp only [fill, hd]
          clear hd
          go_wp2_with fail
          refine (SameOp_any _ _ _ _ _ _ _ _ _ _ _ (HB1.out.1.ext hBw) (HB1.out.2.ext hBw) (HB2.out.1.ext hBw) (HB2.out.2.ext hBw)).mono ?_
          rintro e w11 ⟨rfl, hb11⟩
          rw [HS.out]
          go_wp2
          exact ⟨rfl, rfl, hb11, rfl⟩
        · intro V w' hb hd
          simp only [DepFacts, SSO, Region.binds, forall_const, and_true] at hd
          refine ⟨?_⟩
          simp only [fill, hd]
          clear hd
          go_wp2
          exact ⟨rfl, rfl, Below.refl _ _, rfl⟩
      · intro V w12 hb12 hV
        simp only [SFacts, SSO] at hV
        have h9 := hV.2.2.2.2.2.2.2.2.2.1
        clear hV
        have hB12 := below_step (below_drew hBr) hb12
        simp only [fill, h9]
        try simp only [Exit.then]
        go_simp
        go_wp2
        go_roundw
        case rel =>
          first
            | exact ⟨k + 1, by omega, by go_num, hB12⟩
            | ((repeat apply Exists.intro); exact ⟨⟨k + 1, by omega, by go_num, hB12⟩, rfl⟩)
        case measure => first | (simp [intOf]; done) | (simp [intOf]; omega)
    · obtain rfl : k = n' := by omega
      go_wp2
      go_ret
      exact ⟨rfl, hBr⟩

set_option maxRecDepth 100000 in
set_option maxHeartbeats 4000000 in
theorem Batches_true (va vb : Value) (l m : List (List Rec)) (w : World) (ha : SliceOf 1 (rSlice 3 rOp) w va l) (hb : SliceOf 1 (rSlice 3 rOp) w vb m) (hs : SameLL l m) :
    Calls Try.prog 29 #[va, vb] w fun e w' => e = .returned (.bool true) ∧ Below w.heap.size w w' := by
  obtain ⟨A1, n, c1, xs, rfl, g1, g2, g3, g4, g5, g6⟩ := ha
  obtain ⟨A2, n', c2, ys, rfl, i1, i2, i3, i4, i5, i6⟩ := hb
  obtain ⟨hle, HSA⟩ := hs
  have hnn : n' = n := by omega
  subst hnn
  replace HSA := Lib.hid HSA
  unfold maxLen at g4 i4
  go_enter Try.func29, Try.ntmps29
  go_wp2
  go_loopw [5] (fun i wr => ∃ k : Nat, k ≤ n' ∧ i = .int .i64 k ∧ Below w.heap.size w wr) (fun i _ => n' - (intOf i).toNat)
  case atStart => exact ⟨0, Nat.zero_le _, rfl, Below.refl _ _⟩
  case round =>
    obtain ⟨k, hk, rfl, hBr⟩ := hrel
    by_cases hlt : k < n'
    · clear hk
      obtain ⟨ad1, v1, x, rfl, p0, hx, b1⟩ := out_at (g5.ext hBr) g1 g2 g6 hlt
      obtain ⟨ad2, v2, y, rfl, r0, hy, b2⟩ := out_at (i5.ext hBr) i1 i2 i6 hlt
      have HB1 := Lib.hid b1
      have HB2 := Lib.hid b2
      have HS := Lib.hid (HSA.out k x y hx hy)
      clear hx hy b1 b2
      go_upto_region 6 with (fail)
      replace p0 := cell_drew p0
      replace r0 := cell_drew r0
      refine wp_region_each (by kernel_rfl) (by kernel_rfl) (by kernel_rfl) (fun w w' => Below w.heap.size w w') (fun w => Below.refl _ _) (fun x y z h1 h2 => below_step h1 h2) (SBA ad1 ad2 n' c1 c2 k v1 v2) (SBA_stays _ _ _ _ _ _ _ _) ?_ ?_
      · simp only [EachStep]
        refine ⟨?_, ?_, ?_, ?_, ?_, ?_, ?_, ?_, ?_, ?_, trivial⟩
        · intro V w' hb hd
          clear hd
          refine ⟨?_⟩
          simp only [fill]
          go_wp2
          exact ⟨rfl, rfl, Below.refl _ _, rfl⟩
        · intro V w' hb hd
          clear hd
          refine ⟨?_⟩
          simp only [fill]
          go_wp2
          exact ⟨rfl, rfl, Below.refl _ _, rfl⟩
        · intro V w' hb hd
          simp only [DepFacts, SBA, Region.binds, forall_const, and_true] at hd
          refine ⟨?_⟩
          simp only [fill, hd]
          clear hd
          go_wp2
          exact ⟨rfl, rfl, Below.refl _ _, rfl⟩
        · intro V w' hb hd
          have q0 := cell_ext hb p0
          simp only [DepFacts, SBA, Region.binds, forall_const, and_true] at hd
          refine ⟨?_⟩
          simp only [fill, hd]
          clear hd
          go_wp2
          exact ⟨rfl, rfl, Below.refl _ _, rfl⟩
        · intro V w' hb hd
          clear hd
          refine ⟨?_⟩
          simp only [fill]
          go_wp2
          exact ⟨rfl, rfl, Below.refl _ _, rfl⟩
        · intro V w' hb hd
          clear hd
          refine ⟨?_⟩
          simp only [fill]
          go_wp2
          exact ⟨rfl, rfl, Below.refl _ _, rfl⟩
        · intro V w' hb hd
          simp only [DepFacts, SBA, Region.binds, forall_const, and_true] at hd
          refine ⟨?_⟩
          simp only [fill, hd]
          clear hd
          go_wp2
          exact ⟨rfl, rfl, Below.refl _ _, rfl⟩
        · intro V w' hb hd
          have q0 := cell_ext hb r0
          simp only [DepFacts, SBA, Region.binds, forall_const, and_true] at hd
          refine ⟨?_⟩
          simp only [fill, hd]
          clear hd
          go_wp2
          exact ⟨rfl, rfl, Below.refl _ _, rfl⟩
        · intro V w' hb hd
          have hBw := below_step (below_drew hBr) hb
          simp only [DepFacts, SBA, Region.binds, forall_const, and_true] at hd
          refine ⟨?_⟩
          simp only [fill, hd]
          clear hd
          go_wp2_with fail
          refine (SameOps_true _ _ _ _ _ (HB1.out.ext rOp_stays hBw) (HB2.out.ext rOp_stays hBw) HS.out).mono ?_
          rintro e w11 ⟨rfl, hb11⟩
          go_wp2
          exact ⟨rfl, rfl, hb11, rfl⟩
        · intro V w' hb hd
          simp only [DepFacts, SBA, Region.binds, forall_const, and_true] at hd
          refine ⟨?_⟩
          simp only [fill, hd]
          clear hd
          go_wp2
          exact ⟨rfl, rfl, Below.refl _ _, rfl⟩
      · intro V w12 hb12 hV
        simp only [SFacts, SBA] at hV
        have h9 := hV.2.2.2.2.2.2.2.2.2.1
        clear hV
        have hB12 := below_step (below_drew hBr) hb12
        simp only [fill, h9]
        try simp only [Exit.then]
        go_simp
        go_wp2
        go_roundw
        case rel =>
          first
            | exact ⟨k + 1, by omega, by go_num, hB12⟩
            | ((repeat apply Exists.intro); exact ⟨⟨k + 1, by omega, by go_num, hB12⟩, rfl⟩)
        case measure => first | (simp [intOf]; done) | (simp [intOf]; omega)
    · obtain rfl : k = n' := by omega
      go_wp2
      go_ret
      exact ⟨rfl, hBr⟩
end Go.Mun
