/- setPair of the reference: where its row lies. -/
import Derived.Test.YthjnebngdcdicaaKvFn
namespace Go.Mun
open Go Go.RowKit Go.Proofs

/-- a row of data, its cells given -/
def RowAt {α : Type} (size : Nat) (R : Reader α) (w : World) (v : Value) (al : List α) (xs : List Value) : Prop :=
  ∃ A n c, v = .slice A n c ∧ al.length = n ∧ xs.length = n * size ∧ n ≤ c ∧ c ≤ maxLen ∧ Rd w A xs ∧ ∀ i (h : i < al.length), R w (chunk xs size i) al[i]
/-- a row in new memory; its cells are old ones, or slices in new memory -/
def RowNew {α : Type} (size : Nat) (R : Reader α) (e : TypeId) (base : Nat) (w : World) (v : Value) (al : List α) (xs : List Value) : Prop :=
  ∃ ys, w.ownsRow base e size v al.length ys ∧ RowC size R w ys al ∧ ∀ u ∈ ys, u ∈ xs ∨ NewV base u
theorem rowNew_of {α : Type} {size base b0 n : Nat} {R : Reader α} {e : TypeId} {w : World} {v : Value} {al : List α} {xs ys : List Value} (h : w.ownsRow b0 e (size + 1) v n ys) (hb : base ≤ b0) (hr : RowC (size + 1) R w ys al) (hm : ∀ u ∈ ys, u ∈ xs ∨ NewV base u) : RowNew (size + 1) R e base w v al xs := by
  have e : n = al.length := by
    have h1 := h.1
    rw [hr.1] at h1
    exact (Nat.eq_of_mul_eq_mul_right (Nat.succ_pos size) h1).symm
  subst e
  exact ⟨ys, own_base h hb, hr, hm⟩
/-- the row with the pair behind it -/
def OwnQ (base q k nk nv : Nat) (xs : List Value) (key val : List UInt8) (v : Value) (w : World) : Prop := ∃ A' c' B' d', w.ownsRow base 51 2 v (k + 1) (xs ++ [.slice A' nk c', .slice B' nv d']) ∧ Bytes w (.slice A' nk c') key ∧ Bytes w (.slice B' nv d') val ∧ (∀ ad, A' = some ad → v.ownBlock ≠ some ad.block ∧ q ≤ ad.block) ∧ ∀ ad, B' = some ad → v.ownBlock ≠ some ad.block ∧ q ≤ ad.block
/-- how far it has come -/
def JSg (base q k nk nv : Nat) (xs : List Value) (vo : Value) (key val : List UInt8) (L : Nat → Bool) (V : Nat → Value) (w : World) : Prop :=
  (L 9 = false → w.ownsRow base 51 2 vo k xs) ∧ (L 9 = true → OwnQ base q k nk nv xs key val (V 9) w) ∧ (L 10 = true → OwnQ base q k nk nv xs key val (V 10) w) ∧ q ≤ w.heap.size
theorem JSg_new (base q k nk nv : Nat) (xs : List Value) (vo : Value) (key val : List UInt8) {L : Nat → Bool} {V : Nat → Value} {w : World} {i : Nat} {v : Value} (h9 : L 9 = false) (h10 : L 10 = false) (i9 : (9 : Nat) ≠ i) (i10 : (10 : Nat) ≠ i) (ho : w.ownsRow base 51 2 vo k xs) (hq : q ≤ w.heap.size) : JSg base q k nk nv xs vo key val (updL L i) (upd V i v) w := by
  unfold JSg
  rw [updL_ne i9, updL_ne i10, h9, h10]
  exact ⟨fun _ => ho, fun e => (by cases e), fun e => (by cases e), hq⟩
theorem JSg_nine (base q k nk nv : Nat) (xs : List Value) (vo : Value) (key val : List UInt8) {L : Nat → Bool} {V : Nat → Value} {w : World} {v : Value} (h10 : L 10 = false) (ho : OwnQ base q k nk nv xs key val v w) (hq : q ≤ w.heap.size) : JSg base q k nk nv xs vo key val (updL L 9) (upd V 9 v) w := by
  unfold JSg
  rw [updL_same, updL_ne (by decide), h10, upd_same]
  exact ⟨fun e => (by cases e), fun _ => ho, fun e => (by cases e), hq⟩
theorem JSg_ten (base q k nk nv : Nat) (xs : List Value) (vo : Value) (key val : List UInt8) {L : Nat → Bool} {V : Nat → Value} {w : World} (h9 : L 9 = true) (ho : OwnQ base q k nk nv xs key val (V 9) w) (hq : q ≤ w.heap.size) : JSg base q k nk nv xs vo key val (updL L 10) (upd V 10 (V 9)) w := by
  unfold JSg
  rw [updL_same, updL_ne (by decide), h9, upd_same, upd_ne (by decide)]
  exact ⟨fun e => (by cases e), fun _ => ho, fun _ => ho, hq⟩
theorem JSg_far (base q kk nk nv : Nat) (xs : List Value) (vo : Value) (key val : List UInt8) {L : Nat → Bool} {V : Nat → Value} {w : World} (hJ : JSg base q kk nk nv xs vo key val L V w) {k : Nat} {v : Value} (h9 : (9 : Nat) ≠ k) (h10 : (10 : Nat) ≠ k) : JSg base q kk nk nv xs vo key val (updL L k) (upd V k v) w := by
  unfold JSg at hJ ⊢
  simp only [updL_ne h9, updL_ne h10, upd_ne h9, upd_ne h10]
  exact hJ

set_option maxRecDepth 100000 in
set_option maxHeartbeats 16000000 in
theorem setPair_row (xs : List Value) (va : Value) (P : PL (List UInt8)) (o : Rec) (AK AV : Option Addr) (nk cK nv cV : Nat) (w : World) (h : RowAt 2 rPair w va P xs) (hP : Rises P) (hl : P.length ≤ 100000) (hk : Bytes w (.slice AK nk cK) o.key) (hv : Bytes w (.slice AV nv cV) o.value) (hkl : o.key.length ≤ 1000000) (hvl : o.value.length ≤ 1000000) :
    Calls Try.prog 38 #[va, .agg #[.bool o.del, .slice AK nk cK, .slice AV nv cV]] w fun e w' => ∃ v', e = .returned v' ∧ RowNew 2 rPair 51 w.heap.size w' v' (setP P o.key o.left) xs ∧ Below w.heap.size w w' := by
  obtain ⟨A, n, c, rfl, g1, g2, g3, g4, g5, g6⟩ := h
  unfold maxLen at g4
  have HXS := Lib.hid (show RowC 2 rPair w xs P from ⟨by rw [g1]; exact g2, g6⟩)
  have hTP := pairsTy
  have hTB := bytesTyR
  have HS := Lib.hid (fun (w : World) (A : Option Addr) (n c : Nat) (l : List UInt8) (h : Bytes w (.slice A n c) l) => run_str (P := Try.prog) (src := 22) (dst := 9) h Try.underlying22 Try.underlying5 Try.underlying9)
  have HNK := Lib.hid (show o.key.length = nk by obtain ⟨_, _, _, e, h1, _⟩ := hk; injection e with e1 e2 e3; omega)
  have HNV := Lib.hid (show o.value.length = nv by obtain ⟨_, _, _, e, h1, _⟩ := hv; injection e with e1 e2 e3; omega)
  have HPA := Lib.hid (fun (k : Nat) (hk : k < n) (w' : World) (hb : Below w.heap.size w w') => pair_at (g5.ext hb) g1 g2 g6 hk)
  have HKB := Lib.hid (fun (w' : World) (hb : Below w.heap.size w w') => hk.ext hb)
  have HVB := Lib.hid (fun (w' : World) (hb : Below w.heap.size w w') => hv.ext hb)
  have HG5 := Lib.hid (And.intro g2 g5)
  have HPL := Lib.hid g1
  have hn1 : n ≤ 100000 := by omega
  have hnk : nk ≤ 1000000 := by rw [← HNK.out]; exact hkl
  have hnv : nv ≤ 1000000 := by rw [← HNV.out]; exact hvl
  clear g1 g2 g5 g6 hk hv hkl hvl hl
  obtain ⟨dl, hdd⟩ : ∃ dl, dl = o.del := ⟨_, rfl⟩
  rw [← hdd]
  have HDD := Lib.hid hdd.symm
  clear hdd
  go_enter Try.func38, Try.ntmps38
  go_wp2_with (first
    | ((with_reducible refine gd_box ?_); refine wpList_box_agg rfl _ (.tmp 1) rfl rfl ?_; intro w1 hx1 hb1 hl1)
    | fail)
  have HY1 := Lib.hid (fun (w' : World) (hb : Below w1.heap.size w1 w') => (hx1.ext hb).cellv (i := 1) rfl)
  have HY2 := Lib.hid (fun (w' : World) (hb : Below w1.heap.size w1 w') => (hx1.ext hb).cellv (i := 2) rfl)
  have HY0 := Lib.hid (fun (w' : World) (hb : Below w1.heap.size w1 w') => (hx1.ext hb).cellv (i := 0) rfl)
  go_loopw [5] (fun iv wr => ∃ (k : Nat), k ≤ n ∧ iv = .int .i64 k ∧ (∀ p ∈ P.take k, ltB p.1 o.key = true) ∧ Below w1.heap.size w1 wr) (fun iv _ => n - (RowKit.intOf iv).toNat)
  case atStart => exact ⟨0, Nat.zero_le _, rfl, (fun p hp => by cases hp), Below.refl _ _⟩
  case round =>
    obtain ⟨k, hk, rfl, hlo, hBr⟩ := hrel
    have hBw := below_step hb1 hBr
    have b1 : (0 : Int) ≤ k := by omega
    by_cases hlt : k < n
    · obtain ⟨ad1, ⟨pk, pv⟩, kv1, vv1, rfl, p0, p1, hp, y1, y2⟩ := HPA.out k hlt wr hBw
      simp only at y1 y2
      replace y1 := y1.ext hBw
      obtain ⟨AK1, nk1, cK1, e1⟩ : ∃ A n c, kv1 = .slice A n c := by obtain ⟨A, n, c, e, _⟩ := y1; exact ⟨A, n, c, e⟩
      subst e1
      clear y2 p1
      have b2 : (k : Int) < n := by omega
      have f1 : decide ((k : Int) < n) = true := decide_eq_true b2
      obtain ⟨res, hres⟩ : ∃ res, res = ltB pk o.key := ⟨_, rfl⟩
      have HR := Lib.hid (show Op.bytesLess pk o.key = res by rw [less_eq, hres])
      replace hres := Lib.hid hres
      have HP0 := Lib.hid (fun (w' : World) (hb : Below wr.drew.heap.size wr.drew w') => cell_ext hb (cell_drew (show wr.cell? _ = _ from p0)))
      have HY1d := Lib.hid (fun (w' : World) (hb : Below wr.drew.heap.size wr.drew w') => HY1.out _ (below_step (below_drew hBr) hb))
      have HB1 := Lib.hid (fun (w' : World) (hb : Below wr.drew.heap.size wr.drew w') => (show Bytes wr.drew _ _ from y1).ext hb)
      have HB2 := Lib.hid (fun (w' : World) (hb : Below wr.drew.heap.size wr.drew w') => HKB.out _ (below_step (below_drew hBw) hb))
      go_upto_region 2 with (fail)
      refine wp_region_each (by kernel_rfl) (by kernel_rfl) (by kernel_rfl) (fun w w' => Below w.heap.size w w') (fun w => Below.refl _ _) (fun x y z h1 h2 => below_step h1 h2) (SC2 ad1 n c k w.heap.size (.slice AK1 nk1 cK1) (.slice AK nk cK) pk o.key res) (SC2_stays _ _ _ _ _ _ _ _ _ _) ?_ ?_
      · simp only [EachStep]
        refine ⟨?_, ?_, ?_, ?_, ?_, ?_, ?_, ?_, ?_, ?_, ?_, ?_, ?_, ?_, ?_, ?_, trivial⟩
        · intro V w' hb hd
          clear hd
          refine ⟨?_⟩
          simp only [fill]
          go_wp2
          exact ⟨rfl, rfl, Below.refl _ _, rfl⟩
        · intro V w' hb hd
          clear hd
          refine ⟨?_⟩
          simp only [fill]
          go_wp2
          exact ⟨rfl, rfl, Below.refl _ _, rfl⟩
        · intro V w' hb hd
          simp only [DepFacts, SC2, Region.binds, forall_const, and_true] at hd
          refine ⟨?_⟩
          simp only [fill, hd]
          clear hd
          go_wp2
          exact ⟨rfl, rfl, Below.refl _ _, rfl⟩
        · intro V w' hb hd
          simp only [DepFacts, SC2, Region.binds, forall_const, and_true] at hd
          refine ⟨?_⟩
          simp only [fill, hd]
          clear hd
          go_wp2
          exact ⟨rfl, rfl, Below.refl _ _, rfl⟩
        · intro V w' hb hd
          simp only [DepFacts, SC2, Region.binds, forall_const, and_true] at hd
          refine ⟨?_⟩
          simp only [fill, hd]
          clear hd
          go_wp2
          exact ⟨rfl, rfl, Below.refl _ _, rfl⟩
        · intro V w' hb hd
          simp only [DepFacts, SC2, Region.binds, forall_const, and_true] at hd
          refine ⟨?_⟩
          simp only [fill, hd]
          clear hd
          go_wp2
          exact ⟨rfl, rfl, Below.refl _ _, rfl⟩
        · intro V w' hb hd
          simp only [DepFacts, SC2, Region.binds, forall_const, and_true] at hd
          refine ⟨?_⟩
          simp only [fill, hd]
          clear hd
          go_wp2
          exact ⟨rfl, rfl, Below.refl _ _, rfl⟩
        · intro V w' hb hd
          simp only [DepFacts, SC2, Region.binds, forall_const, and_true] at hd
          refine ⟨?_⟩
          simp only [fill, hd]
          clear hd
          go_wp2
          exact ⟨rfl, rfl, Below.refl _ _, rfl⟩
        · intro V w' hb hd
          simp only [DepFacts, SC2, Region.binds, forall_const, and_true] at hd
          refine ⟨?_⟩
          simp only [fill, hd]
          clear hd
          go_wp2
          exact ⟨rfl, rfl, Below.refl _ _, rfl⟩
        · intro V w' hb hd
          have q := HP0.out _ hb
          simp only [DepFacts, SC2, Region.binds, forall_const, and_true] at hd
          refine ⟨?_⟩
          simp only [fill, hd]
          clear hd
          go_wp2
          exact ⟨rfl, rfl, Below.refl _ _, rfl⟩
        · intro V w' hb hd
          have q := HS.out _ _ _ _ _ (HB1.out _ hb)
          simp only [DepFacts, SC2, Region.binds, forall_const, and_true] at hd
          refine ⟨?_⟩
          simp only [fill, hd]
          clear hd
          go_wp2
          exact ⟨rfl, rfl, Below.refl _ _, rfl⟩
        · intro V w' hb hd
          simp only [DepFacts, SC2, Region.binds, forall_const, and_true] at hd
          refine ⟨?_⟩
          simp only [fill, hd]
          clear hd
          go_wp2
          exact ⟨rfl, rfl, Below.refl _ _, rfl⟩
        · intro V w' hb hd
          have q := HY1d.out _ hb
          simp only [DepFacts, SC2, Region.binds, forall_const, and_true] at hd
          refine ⟨?_⟩
          simp only [fill, hd]
          clear hd
          go_wp2
          exact ⟨rfl, rfl, Below.refl _ _, rfl⟩
        · intro V w' hb hd
          have q := HS.out _ _ _ _ _ (HB2.out _ hb)
          simp only [DepFacts, SC2, Region.binds, forall_const, and_true] at hd
          refine ⟨?_⟩
          simp only [fill, hd]
          clear hd
          go_wp2
          exact ⟨rfl, rfl, Below.refl _ _, rfl⟩
        · intro V w' hb hd
          have q := HR.out
          simp only [DepFacts, SC2, Region.binds, forall_const, and_true] at hd
          refine ⟨?_⟩
          simp only [fill, hd]
          clear hd
          go_wp2
          exact ⟨rfl, rfl, Below.refl _ _, rfl⟩
        · intro V w' hb hd
          simp only [DepFacts, SC2, Region.binds, forall_const, and_true] at hd
          refine ⟨?_⟩
          simp only [fill, hd]
          clear hd
          go_wp2
          exact ⟨rfl, rfl, Below.refl _ _, rfl⟩
      · intro V w12 hb12 hV
        simp only [SFacts, SC2] at hV
        have h15 := hV.2.2.2.2.2.2.2.2.2.2.2.2.2.2.2.1
        clear hV
        simp only [fill, h15]
        clear h15
        try simp only [Exit.then]
        try go_simp
        have hB12 := below_step (below_drew hBr) hb12
        have hB12w := below_step hb1 hB12
        clear HP0 HY1d HB1 HB2 HR
        cases res
        · -- here
          obtain ⟨res, hres5⟩ : ∃ res, res = decide (pk = o.key) := ⟨_, rfl⟩
          have HR := Lib.hid (show (pk == o.key) = res from by rw [hres5]; exact Bool.eq_iff_iff.2 (by simp))
          replace hres5 := Lib.hid hres5
          have HP0 := Lib.hid (fun (w' : World) (hb : Below w12.drew.heap.size w12.drew w') => cell_ext hb (cell_drew (show w12.cell? _ = _ from cell_ext hb12 (cell_drew p0))))
          have HY1d := Lib.hid (fun (w' : World) (hb : Below w12.drew.heap.size w12.drew w') => HY1.out _ (below_step (below_drew hB12) hb))
          have HB1 := Lib.hid (fun (w' : World) (hb : Below w12.drew.heap.size w12.drew w') => (show Bytes w12.drew _ _ from (show Bytes w12 _ _ from (show Bytes wr.drew _ _ from y1).ext hb12)).ext hb)
          have HB2 := Lib.hid (fun (w' : World) (hb : Below w12.drew.heap.size w12.drew w') => HKB.out _ (below_step (below_drew hB12w) hb))
          go_upto_region 5 with (fail)
          refine wp_region_each (by kernel_rfl) (by kernel_rfl) (by kernel_rfl) (fun w w' => Below w.heap.size w w') (fun w => Below.refl _ _) (fun x y z h1 h2 => below_step h1 h2) (SC5 ad1 n c k w.heap.size (.slice AK1 nk1 cK1) (.slice AK nk cK) pk o.key res) (SC5_stays _ _ _ _ _ _ _ _ _ _) ?_ ?_
          · simp only [EachStep]
            refine ⟨?_, ?_, ?_, ?_, ?_, ?_, ?_, ?_, ?_, ?_, ?_, ?_, ?_, ?_, ?_, ?_, trivial⟩
            · intro V w' hb hd
              clear hd
              refine ⟨?_⟩
              simp only [fill]
              go_wp2
              exact ⟨rfl, rfl, Below.refl _ _, rfl⟩
            · intro V w' hb hd
              clear hd
              refine ⟨?_⟩
              simp only [fill]
              go_wp2
              exact ⟨rfl, rfl, Below.refl _ _, rfl⟩
            · intro V w' hb hd
              simp only [DepFacts, SC5, Region.binds, forall_const, and_true] at hd
              refine ⟨?_⟩
              simp only [fill, hd]
              clear hd
              go_wp2
              exact ⟨rfl, rfl, Below.refl _ _, rfl⟩
            · intro V w' hb hd
              simp only [DepFacts, SC5, Region.binds, forall_const, and_true] at hd
              refine ⟨?_⟩
              simp only [fill, hd]
              clear hd
              go_wp2
              exact ⟨rfl, rfl, Below.refl _ _, rfl⟩
            · intro V w' hb hd
              simp only [DepFacts, SC5, Region.binds, forall_const, and_true] at hd
              refine ⟨?_⟩
              simp only [fill, hd]
              clear hd
              go_wp2
              exact ⟨rfl, rfl, Below.refl _ _, rfl⟩
            · intro V w' hb hd
              simp only [DepFacts, SC5, Region.binds, forall_const, and_true] at hd
              refine ⟨?_⟩
              simp only [fill, hd]
              clear hd
              go_wp2
              exact ⟨rfl, rfl, Below.refl _ _, rfl⟩
            · intro V w' hb hd
              simp only [DepFacts, SC5, Region.binds, forall_const, and_true] at hd
              refine ⟨?_⟩
              simp only [fill, hd]
              clear hd
              go_wp2
              exact ⟨rfl, rfl, Below.refl _ _, rfl⟩
            · intro V w' hb hd
              simp only [DepFacts, SC5, Region.binds, forall_const, and_true] at hd
              refine ⟨?_⟩
              simp only [fill, hd]
              clear hd
              go_wp2
              exact ⟨rfl, rfl, Below.refl _ _, rfl⟩
            · intro V w' hb hd
              simp only [DepFacts, SC5, Region.binds, forall_const, and_true] at hd
              refine ⟨?_⟩
              simp only [fill, hd]
              clear hd
              go_wp2
              exact ⟨rfl, rfl, Below.refl _ _, rfl⟩
            · intro V w' hb hd
              have q := HP0.out _ hb
              simp only [DepFacts, SC5, Region.binds, forall_const, and_true] at hd
              refine ⟨?_⟩
              simp only [fill, hd]
              clear hd
              go_wp2
              exact ⟨rfl, rfl, Below.refl _ _, rfl⟩
            · intro V w' hb hd
              have q := HS.out _ _ _ _ _ (HB1.out _ hb)
              simp only [DepFacts, SC5, Region.binds, forall_const, and_true] at hd
              refine ⟨?_⟩
              simp only [fill, hd]
              clear hd
              go_wp2
              exact ⟨rfl, rfl, Below.refl _ _, rfl⟩
            · intro V w' hb hd
              simp only [DepFacts, SC5, Region.binds, forall_const, and_true] at hd
              refine ⟨?_⟩
              simp only [fill, hd]
              clear hd
              go_wp2
              exact ⟨rfl, rfl, Below.refl _ _, rfl⟩
            · intro V w' hb hd
              have q := HY1d.out _ hb
              simp only [DepFacts, SC5, Region.binds, forall_const, and_true] at hd
              refine ⟨?_⟩
              simp only [fill, hd]
              clear hd
              go_wp2
              exact ⟨rfl, rfl, Below.refl _ _, rfl⟩
            · intro V w' hb hd
              have q := HS.out _ _ _ _ _ (HB2.out _ hb)
              simp only [DepFacts, SC5, Region.binds, forall_const, and_true] at hd
              refine ⟨?_⟩
              simp only [fill, hd]
              clear hd
              go_wp2
              exact ⟨rfl, rfl, Below.refl _ _, rfl⟩
            · intro V w' hb hd
              have q := HR.out
              simp only [DepFacts, SC5, Region.binds, forall_const, and_true] at hd
              refine ⟨?_⟩
              simp only [fill, hd]
              clear hd
              go_wp2
              exact ⟨rfl, rfl, Below.refl _ _, rfl⟩
            · intro V w' hb hd
              simp only [DepFacts, SC5, Region.binds, forall_const, and_true] at hd
              refine ⟨?_⟩
              simp only [fill, hd]
              clear hd
              go_wp2
              exact ⟨rfl, rfl, Below.refl _ _, rfl⟩
          · intro V w13 hb13 hV
            simp only [SFacts, SC5] at hV
            have h15 := hV.2.2.2.2.2.2.2.2.2.2.2.2.2.2.2.1
            clear hV
            simp only [fill, h15]
            clear h15
            try simp only [Exit.then]
            try go_simp
            have hB13 := below_step (below_drew hB12) hb13
            have hB13w := below_step hb1 hB13
            cases res
            · -- another key
              have hne : pk ≠ o.key := of_decide_eq_false hres5.out.symm
              have hBx := hB13
              have hBwx := hB13w
              have hset0 := Lib.hid (fun q => set_at (tail := k) hP (key := o.key) q (by have := HPL.out; omega) hlo (fun p h => by rw [hp] at h; injection h with h; subst h; exact hres.out.symm) (.inl ⟨rfl, fun p h => by rw [hp] at h; injection h with h; subst h; exact hne⟩))
              cases dl
              · -- there
                have hcutK := cutp_h hTP (some ad1) n c (kh := .i64) (hi' := (k : Nat)) (hi := k) rfl (by omega)
                obtain ⟨A10, hcut10, hcutR⟩ := cutp_l hTP (some ad1) n c (kl := .i64) (lo' := (k : Int)) (lo := k) rfl (by omega) (by omega)
                obtain ⟨m10, hm10⟩ : ∃ m, m = n - k := ⟨_, rfl⟩
                obtain ⟨c10, hc10⟩ : ∃ m, m = c - k := ⟨_, rfl⟩
                rw [← hm10, ← hc10] at hcut10
                replace hm10 := Lib.hid hm10
                clear hc10
                have hrd7 := (HG5.out.2.ext hBwx).take (k * 2)
                have hszx := hBx.size
                go_upto_region 8 with (first
                  | (at_builtin; refine wpList_append_rd _ rfl (.const (.slice none 0 0)) (.tmp 47) _ rfl w1.heap.size _ _ 2 48 hTP _ _ _ rfl (World.ownsRow_nil _ _ _ _) (some ad1) k c (xs.take (k * 2)) rfl (by rw [List.length_take, HG5.out.1]; omega) hrd7 (fun u hu => pair_cells HXS.out u (List.mem_of_mem_take hu)) (by unfold maxLen; omega) (by omega) hszx ?_; intro v7 w7 ho7 hg7 hat7)
                  | fail)
                rw [Nat.zero_add, List.nil_append] at ho7
                have hB7 := below_own hBx (World.ownsRow_nil _ w1.heap.size 51 2) (Nat.le_refl _) hg7 hszx
                have hBw7 := below_step hb1 hB7
                have y0 := HY0.out _ hB7
                clear hg7 hat7 hrd7
                have hset := Lib.hid (show setP P o.key o.left = P.take k ++ ((o.key, o.value) :: P.drop (k)) from by unfold Rec.left; rw [HDD.out]; exact hset0.out (some o.value))
                go_upto_region 9 with (fail)
                have hvq : ∀ x, v7.ownBlock = some x → w1.heap.size ≤ x ∧ x < w7.heap.size := fun x hx => ho7.lt x hx
                have hbx : ∀ x, v7.ownBlock = some x → w.heap.size < x := fun x hx => by have := (hvq x hx).1; omega
                have HY1g := Lib.hid (fun (w' : World) (hb : w7.drew.grownBy w' v7.ownBlock) => ((show Blk w7.drew _ _ _ from (hx1.ext hB7).drew).grown hb (fun e => by have := hbx _ e.symm; omega)).cellv (i := 1) rfl)
                have HY2g := Lib.hid (fun (w' : World) (hb : w7.drew.grownBy w' v7.ownBlock) => ((show Blk w7.drew _ _ _ from (hx1.ext hB7).drew).grown hb (fun e => by have := hbx _ e.symm; omega)).cellv (i := 2) rfl)
                have HB2g := Lib.hid (fun (w' : World) (hb : w7.drew.grownBy w' v7.ownBlock) => HKB.out _ ((below_drew hBw7).trans (grown_below hb (fun x hx => Nat.le_of_lt (hbx x hx)) (show w.heap.size ≤ w7.heap.size from hBw7.size))))
                have HB3g := Lib.hid (fun (w' : World) (hb : w7.drew.grownBy w' v7.ownBlock) => HVB.out _ ((below_drew hBw7).trans (grown_below hb (fun x hx => Nat.le_of_lt (hbx x hx)) (show w.heap.size ≤ w7.heap.size from hBw7.size))))
                have HVQ := Lib.hid (fun x hx => (hvq x hx).2)
                have hbq : w1.heap.size ≤ w7.heap.size := hB7.size
                obtain ⟨base, hbase⟩ : ∃ b, b = w1.heap.size := ⟨_, rfl⟩
                obtain ⟨q, hqq⟩ : ∃ q, q = w7.heap.size := ⟨_, rfl⟩
                have ho7' := ho7
                have hbq' := hbq
                rw [← hbase] at ho7' hbq'
                rw [← hqq] at hbq' HVQ
                refine wp_region_late 10 1 (by kernel_rfl) (by kernel_rfl) (by kernel_rfl) (fun w w' => w.grownBy w' v7.ownBlock) (fun _ => World.grownBy.refl _ _) (fun _ _ _ h k => h.trans k) (SSe w.heap.size q nk cK nv cV AK AV v7 o.key o.value) (SSe_stays w.heap.size q nk cK nv cV AK AV v7 o.key o.value HVQ.out) (JSg base q k nk nv (xs.take (k * 2)) v7 o.key o.value)
                  ⟨fun _ => ho7', fun e => (by cases e), fun e => (by cases e), Nat.le_of_eq hqq⟩ ?_ ?_
                · have hbq := hbq'
                  clear hx1 ho7 ho7' hvq hbx hbase hqq hBw7 hB7 y0
                  simp only [PhStep]
                  refine ⟨?_, ?_, ?_, ?_, ?_, ?_, ?_, ?_, ?_, ?_, ?_, trivial⟩
                  · intro L V w' hb hj hl hdo hcl hd
                    clear hdo hcl
                    clear hd
                    refine ⟨?_⟩
                    simp only [fillX, ne_eq, Nat.reduceEqDiff, not_false_eq_true, not_true_eq_false, if_true, if_false]
                    go_wp2
                    exact ⟨⟨rfl, rfl, World.grownBy.refl _ _, rfl⟩, (JSg_far _ _ _ _ _ _ _ _ _ hj (by decide) (by decide))⟩
                  · intro L V w' hb hj hl hdo hcl hd
                    clear hdo hcl
                    clear hd
                    refine ⟨?_⟩
                    simp only [fillX, ne_eq, Nat.reduceEqDiff, not_false_eq_true, not_true_eq_false, if_true, if_false]
                    go_wp2
                    exact ⟨⟨rfl, rfl, World.grownBy.refl _ _, rfl⟩, (JSg_far _ _ _ _ _ _ _ _ _ hj (by decide) (by decide))⟩
                  · intro L V w' hb hj hl hdo hcl hd
                    have q1 := HY1g.out _ hb
                    clear hdo hcl
                    simp only [DepFacts, SSe, Region.binds, forall_const, and_true] at hd
                    refine ⟨?_⟩
                    simp only [fillX, ne_eq, Nat.reduceEqDiff, not_false_eq_true, not_true_eq_false, if_true, if_false, hd]
                    clear hd
                    go_wp2
                    exact ⟨⟨rfl, rfl, World.grownBy.refl _ _, rfl⟩, JSg_far _ _ _ _ _ _ _ _ _ hj (by decide) (by decide)⟩
                  · intro L V w' hb hj hl hdo hcl hd
                    have h9 : L 9 = false := Bool.eq_false_iff.2 fun e => by have := hcl 7 3 (by kernel_rfl) (hcl 8 7 (by kernel_rfl) (hcl 9 8 (by kernel_rfl) e)); rw [this] at hl; cases hl
                    have h10 : L 10 = false := Bool.eq_false_iff.2 fun e => by have := hcl 10 9 (by kernel_rfl) e; rw [this] at h9; cases h9
                    have ho9 := hj.1 h9
                    have hq9 := hj.2.2.2
                    have hby := HB2g.out _ hb
                    clear hdo hcl
                    simp only [DepFacts, SSe, Region.binds, forall_const, and_true] at hd
                    refine ⟨?_⟩
                    simp only [fillX, ne_eq, Nat.reduceEqDiff, not_false_eq_true, not_true_eq_false, if_true, if_false, hd]
                    clear hd
                    simp only [Act.put, List.setIfInBounds_toArray, List.set_cons_zero, List.set_cons_succ]
                    go_wp2_with (first | (at_builtin; refine wpList_append_bytes rfl (.const (.slice none 0 0)) (.tmp 54) _ rfl w'.heap.size hTB (xs := []) rfl (World.ownsRow_nil _ _ _ _) rfl hby (by have := HNK.out; omega) (Nat.le_refl _) ?_; intro v2 w2 ho2 hg2 _; replace hg2 : World.grownBy w' w2 none := hg2) | fail)
                    rw [List.nil_append, Nat.zero_add, HNK.out] at ho2
                    obtain ⟨A2, c2, rfl, hby2⟩ := row_sl ho2
                    have hg2' : w'.grownBy w2 (Value.ownBlock v7) := ⟨hg2.os, hg2.tape, hg2.output, hg2.size, fun k hk _ => hg2.block k hk (by simp)⟩
                    refine ⟨⟨rfl, rfl, hg2', A2, c2, rfl, hby2, fun ad e => ?_⟩, JSg_new _ _ _ _ _ _ _ _ _ h9 h10 (by decide) (by decide) (ho9.kept hg2 (by cases v7.ownBlock <;> simp)) (Nat.le_trans hq9 hg2.size)⟩
                    subst e
                    exact ⟨Nat.le_trans hq9 (own_blk ho2).1, (own_blk ho2).2⟩
                  · intro L V w' hb hj hl hdo hcl hd
                    clear hdo hcl
                    clear hd
                    refine ⟨?_⟩
                    simp only [fillX, ne_eq, Nat.reduceEqDiff, not_false_eq_true, not_true_eq_false, if_true, if_false]
                    go_wp2
                    exact ⟨⟨rfl, rfl, World.grownBy.refl _ _, rfl⟩, (JSg_far _ _ _ _ _ _ _ _ _ hj (by decide) (by decide))⟩
                  · intro L V w' hb hj hl hdo hcl hd
                    have q1 := HY2g.out _ hb
                    clear hdo hcl
                    simp only [DepFacts, SSe, Region.binds, forall_const, and_true] at hd
                    refine ⟨?_⟩
                    simp only [fillX, ne_eq, Nat.reduceEqDiff, not_false_eq_true, not_true_eq_false, if_true, if_false, hd]
                    clear hd
                    go_wp2
                    exact ⟨⟨rfl, rfl, World.grownBy.refl _ _, rfl⟩, JSg_far _ _ _ _ _ _ _ _ _ hj (by decide) (by decide)⟩
                  · intro L V w' hb hj hl hdo hcl hd
                    have h9 : L 9 = false := Bool.eq_false_iff.2 fun e => by have := hcl 7 6 (by kernel_rfl) (hcl 8 7 (by kernel_rfl) (hcl 9 8 (by kernel_rfl) e)); rw [this] at hl; cases hl
                    have h10 : L 10 = false := Bool.eq_false_iff.2 fun e => by have := hcl 10 9 (by kernel_rfl) e; rw [this] at h9; cases h9
                    have ho9 := hj.1 h9
                    have hq9 := hj.2.2.2
                    have hby := HB3g.out _ hb
                    clear hdo hcl
                    simp only [DepFacts, SSe, Region.binds, forall_const, and_true] at hd
                    refine ⟨?_⟩
                    simp only [fillX, ne_eq, Nat.reduceEqDiff, not_false_eq_true, not_true_eq_false, if_true, if_false, hd]
                    clear hd
                    simp only [Act.put, List.setIfInBounds_toArray, List.set_cons_zero, List.set_cons_succ]
                    go_wp2_with (first | (at_builtin; refine wpList_append_bytes rfl (.const (.slice none 0 0)) (.tmp 57) _ rfl w'.heap.size hTB (xs := []) rfl (World.ownsRow_nil _ _ _ _) rfl hby (by have := HNV.out; omega) (Nat.le_refl _) ?_; intro v2 w2 ho2 hg2 _; replace hg2 : World.grownBy w' w2 none := hg2) | fail)
                    rw [List.nil_append, Nat.zero_add, HNV.out] at ho2
                    obtain ⟨A2, c2, rfl, hby2⟩ := row_sl ho2
                    have hg2' : w'.grownBy w2 (Value.ownBlock v7) := ⟨hg2.os, hg2.tape, hg2.output, hg2.size, fun k hk _ => hg2.block k hk (by simp)⟩
                    refine ⟨⟨rfl, rfl, hg2', A2, c2, rfl, hby2, fun ad e => ?_⟩, JSg_new _ _ _ _ _ _ _ _ _ h9 h10 (by decide) (by decide) (ho9.kept hg2 (by cases v7.ownBlock <;> simp)) (Nat.le_trans hq9 hg2.size)⟩
                    subst e
                    exact ⟨Nat.le_trans hq9 (own_blk ho2).1, (own_blk ho2).2⟩
                  · intro L V w' hb hj hl hdo hcl hd
                    clear hdo hcl
                    simp only [DepFacts, SSe, Region.binds, forall_const, and_true] at hd
                    obtain ⟨⟨A', c', e3, hy3, hq3⟩, B', d', e6, hy6, hq6⟩ := hd
                    refine ⟨?_⟩
                    simp only [fillX, ne_eq, Nat.reduceEqDiff, not_false_eq_true, not_true_eq_false, if_true, if_false, e3, e6]
                    go_wp2
                    exact ⟨⟨rfl, rfl, World.grownBy.refl _ _, A', c', B', d', rfl, hy3, hy6, hq3, hq6⟩, JSg_far _ _ _ _ _ _ _ _ _ hj (by decide) (by decide)⟩
                  · intro L V w' hb hj hl hdo hcl hd
                    have h9 : L 9 = false := Bool.eq_false_iff.2 fun e => by have := hcl 9 8 (by kernel_rfl) e; rw [this] at hl; cases hl
                    have h10 : L 10 = false := Bool.eq_false_iff.2 fun e => by have := hcl 10 9 (by kernel_rfl) e; rw [this] at h9; cases h9
                    have ho9 := hj.1 h9
                    have hq9 := hj.2.2.2
                    clear hdo hcl
                    simp only [DepFacts, SSe, Region.binds, forall_const, and_true] at hd
                    obtain ⟨A', c', B', d', e7, hy3, hy6, hq3, hq6⟩ := hd
                    refine ⟨?_⟩
                    simp only [fillX, ne_eq, Nat.reduceEqDiff, not_false_eq_true, not_true_eq_false, if_true, if_false, e7]
                    clear e7
                    simp only [Act.put, List.setIfInBounds_toArray, List.set_cons_zero, List.set_cons_succ]
                    go_wp2_with (first | (refine wpList_row_one rfl (.tmp 59) rfl hTP (by decide) (cs := #[.slice A' nk c', .slice B' nv d']) rfl rfl ?_; intro w7 hx7 hb7 hl7) | fail)
                    have hg7 : w'.grownBy w7 (Value.ownBlock v7) := ⟨hb7.os, hb7.tape, hb7.output, hb7.size, fun k hk _ => hb7.block k hk⟩
                    exact ⟨⟨rfl, rfl, hg7, w'.heap.size, A', c', B', d', rfl, hq9, hx7, hy3.ext hb7, hy6.ext hb7, fun ad e => ⟨(hq3 ad e).1, Nat.lt_of_lt_of_le (hq3 ad e).2 hb7.size⟩, fun ad e => ⟨(hq6 ad e).1, Nat.lt_of_lt_of_le (hq6 ad e).2 hb7.size⟩⟩, JSg_new _ _ _ _ _ _ _ _ _ h9 h10 (by decide) (by decide) (own_ext ho9 hb7) (Nat.le_trans hq9 hb7.size)⟩
                  · intro L V w' hb hj hl hdo hcl hd
                    have h10 : L 10 = false := Bool.eq_false_iff.2 fun e => by have := hcl 10 9 (by kernel_rfl) e; rw [this] at hl; cases hl
                    have ho9 := hj.1 hl
                    have hq9 := hj.2.2.2
                    clear hdo hcl
                    simp only [DepFacts, SSe, Region.binds, forall_const, and_true] at hd
                    obtain ⟨hv0, g, A', c', B', d', e8, hqg, hx8, hy3, hy6, hq3, hq6⟩ : V 0 = v7 ∧ SSe w.heap.size q nk cK nv cV AK AV v7 o.key o.value 8 (V 8) w' := by first | exact ⟨hd.1, hd.2.1⟩ | exact ⟨hd.1, hd.2⟩ | exact ⟨hd.2.1, hd.1⟩ | exact ⟨hd.1, hd.2.2⟩
                    clear hd
                    refine ⟨?_⟩
                    simp only [fillX, ne_eq, Nat.reduceEqDiff, not_false_eq_true, not_true_eq_false, if_true, if_false, hv0, e8]
                    clear hv0 e8
                    simp only [Act.put, List.setIfInBounds_toArray, List.set_cons_zero, List.set_cons_succ]
                    go_wp2_with (first | (at_builtin; refine wpList_append_rd _ rfl (.tmp 52) (.tmp 60) _ rfl base _ _ 2 48 hTP _ _ _ rfl ho9 (some ⟨g, 0, none⟩) 1 1 [.slice A' nk c', .slice B' nv d'] rfl rfl hx8.rd (by intro u hu; simp only [List.mem_cons, List.not_mem_nil, or_false] at hu; rcases hu with rfl | rfl <;> rfl) (by unfold maxLen; omega) (by omega) (Nat.le_trans hbq hq9) ?_; intro v2 w2 ho2 hg2 hat2) | fail)
                    have hlo : ∀ x, v7.ownBlock = some x → x < q := HVQ.out
                    have hy3' := hy3.grownB hg2 (fun ad e => fun e' => by have := (hq3 ad e).1; have := hlo _ e'.symm; omega)
                    have hy6' := hy6.grownB hg2 (fun ad e => fun e' => by have := (hq6 ad e).1; have := hlo _ e'.symm; omega)
                    exact ⟨⟨rfl, rfl, hg2, trivial⟩, JSg_nine _ _ _ _ _ _ _ _ _ h10 ⟨A', c', B', d', ho2, hy3', hy6', fun ad e => ⟨apart_blk hat2 hlo (hq3 ad e), (hq3 ad e).1⟩, fun ad e => ⟨apart_blk hat2 hlo (hq6 ad e), (hq6 ad e).1⟩⟩ (Nat.le_trans hq9 hg2.size)⟩
                  · intro L V w' hb hj hl hdo hcl hd
                    have h9 : L 9 = true := hdo 9 (by kernel_rfl)
                    have hon := hj.2.1 h9
                    have hq9 := hj.2.2.2
                    clear hdo hcl hd
                    refine ⟨?_⟩
                    simp only [fillX, ne_eq, Nat.reduceEqDiff, not_false_eq_true, not_true_eq_false, if_true, if_false]
                    go_wp2
                    exact ⟨⟨rfl, rfl, World.grownBy.refl _ _, trivial⟩, JSg_ten _ _ _ _ _ _ _ _ _ h9 hon hq9⟩
                · intro L V w9 hL hb9 hs hj
                  clear hs ho7' hbq'
                  obtain ⟨AA, cc, BB, dd, ho9, hya, hyv, hna, hnv9⟩ := hj.2.2.1 (hL 10 (by decide))
                  rw [hbase] at ho9
                  have HWQ := Lib.hid (show w.heap.size ≤ q by rw [hqq]; exact Nat.le_trans hb1.size hbq)
                  clear hbase hqq
                  have hB9 := below_own (show Below w1.heap.size w1 w7.drew from hB7.drew) (show w7.drew.ownsRow _ _ _ _ _ _ from ho7) (Nat.le_refl _) hb9 hbq
                  clear hL hj
                  simp only [fill]
                  try simp only [Exit.then]
                  try go_simp
                  have hsz := hB9.size
                  have hrd10 := hcutR _ _ HG5.out.1 (HG5.out.2.ext (below_step hb1 hB9))
                  go_wp2_with (first
                    | (at_builtin; refine wpList_append_rd _ rfl (.tmp 62) (.tmp 65) _ rfl w1.heap.size _ _ 2 48 hTP _ _ _ rfl ho9 A10 m10 c10 (xs.drop (k * 2)) rfl (by rw [List.length_drop, HG5.out.1, hm10.out, Nat.sub_mul]) hrd10 (fun u hu => pair_cells HXS.out u (List.mem_of_mem_drop hu)) (by have := hm10.out; unfold maxLen; omega) (by have := hm10.out; omega) hsz ?_; intro v10 w10 ho10 hg10 hat10)
                    | fail)
                  have hB10 := below_own hB9 ho9 (Nat.le_refl _) hg10 hsz
                  have hBw10 := below_step hb1 hB10
                  go_ret
                  have hya10 := hya.grownB hg10 (fun ad e => fun e' => (hna ad e).1 e'.symm)
                  have hyv10 := hyv.grownB hg10 (fun ad e => fun e' => (hnv9 ad e).1 e'.symm)
                  have hrow := (((HXS.out.ext rPair_stays hBw10).take (m := k) (by have := HPL.out; omega)).append (RowC.one hya10 hyv10)).append ((HXS.out.ext rPair_stays hBw10).drop (m := k) (by have := HPL.out; omega))
                  rw [List.append_assoc (P.take k), List.singleton_append] at hrow
                  refine ⟨_, rfl, ?_, hBw10⟩
                  rw [hset.out]
                  exact rowNew_of ho10 (Nat.le_of_lt_succ (Nat.lt_succ_of_le hb1.size)) hrow fun u hu => by
                    simp only [List.mem_append, List.mem_cons, List.not_mem_nil, or_false] at hu
                    rcases hu with (h | rfl | rfl) | h
                    · exact .inl (List.mem_of_mem_take h)
                    · exact .inr fun ad n c e => by injection e with e; exact Nat.le_trans HWQ.out (hna ad e).2
                    · exact .inr fun ad n c e => by injection e with e; exact Nat.le_trans HWQ.out (hnv9 ad e).2
                    · exact .inl (List.mem_of_mem_drop h)
              · -- gone
                have hcutK := cutp_h hTP (some ad1) n c (kh := .i64) (hi' := (k : Nat)) (hi := k) rfl (by omega)
                obtain ⟨A10, hcut10, hcutR⟩ := cutp_l hTP (some ad1) n c (kl := .i64) (lo' := (k : Int)) (lo := k) rfl (by omega) (by omega)
                obtain ⟨m10, hm10⟩ : ∃ m, m = n - k := ⟨_, rfl⟩
                obtain ⟨c10, hc10⟩ : ∃ m, m = c - k := ⟨_, rfl⟩
                rw [← hm10, ← hc10] at hcut10
                replace hm10 := Lib.hid hm10
                clear hc10
                have hrd7 := (HG5.out.2.ext hBwx).take (k * 2)
                have hszx := hBx.size
                go_upto_region 8 with (first
                  | (at_builtin; refine wpList_append_rd _ rfl (.const (.slice none 0 0)) (.tmp 47) _ rfl w1.heap.size _ _ 2 48 hTP _ _ _ rfl (World.ownsRow_nil _ _ _ _) (some ad1) k c (xs.take (k * 2)) rfl (by rw [List.length_take, HG5.out.1]; omega) hrd7 (fun u hu => pair_cells HXS.out u (List.mem_of_mem_take hu)) (by unfold maxLen; omega) (by omega) hszx ?_; intro v7 w7 ho7 hg7 hat7)
                  | fail)
                rw [Nat.zero_add, List.nil_append] at ho7
                have hB7 := below_own hBx (World.ownsRow_nil _ w1.heap.size 51 2) (Nat.le_refl _) hg7 hszx
                have hBw7 := below_step hb1 hB7
                have y0 := HY0.out _ hB7
                clear hg7 hat7 hrd7
                have hset := Lib.hid (show setP P o.key o.left = P.take k ++ P.drop (k) from by unfold Rec.left; rw [HDD.out]; exact hset0.out none)
                have hsz := hB7.size
                have hrd10 := hcutR _ _ HG5.out.1 (HG5.out.2.ext (below_step hb1 hB7))
                go_wp2_with (first
                  | (at_builtin; refine wpList_append_rd _ rfl (.tmp 62) (.tmp 65) _ rfl w1.heap.size _ _ 2 48 hTP _ _ _ rfl ho7 A10 m10 c10 (xs.drop (k * 2)) rfl (by rw [List.length_drop, HG5.out.1, hm10.out, Nat.sub_mul]) hrd10 (fun u hu => pair_cells HXS.out u (List.mem_of_mem_drop hu)) (by have := hm10.out; unfold maxLen; omega) (by have := hm10.out; omega) hsz ?_; intro v10 w10 ho10 hg10 hat10)
                  | fail)
                have hB10 := below_own hB7 ho7 (Nat.le_refl _) hg10 hsz
                have hBw10 := below_step hb1 hB10
                go_ret
                have hrow := ((HXS.out.ext rPair_stays hBw10).take (m := k) (by have := HPL.out; omega)).append ((HXS.out.ext rPair_stays hBw10).drop (m := k) (by have := HPL.out; omega))
                refine ⟨_, rfl, ?_, hBw10⟩
                rw [hset.out]
                exact rowNew_of ho10 (Nat.le_of_lt_succ (Nat.lt_succ_of_le hb1.size)) hrow fun u hu => by
                  simp only [List.mem_append] at hu
                  rcases hu with h | h
                  · exact .inl (List.mem_of_mem_take h)
                  · exact .inl (List.mem_of_mem_drop h)
            · -- the key
              have heq : pk = o.key := of_decide_eq_true hres5.out.symm
              have hBx := hB13
              have hBwx := hB13w
              have hset0 := Lib.hid (fun q => set_at (tail := (k + 1)) hP (key := o.key) q (by have := HPL.out; omega) hlo (fun p h => by rw [hp] at h; injection h with h; subst h; exact hres.out.symm) (.inr ⟨rfl, _, hp, heq⟩))
              cases dl
              · -- there
                have hcutK := cutp_h hTP (some ad1) n c (kh := .i64) (hi' := (k : Nat)) (hi := k) rfl (by omega)
                obtain ⟨A10, hcut10, hcutR⟩ := cutp_l hTP (some ad1) n c (kl := .i64) (lo' := ((k : Int) + 1)) (lo := (k + 1)) (by omega) (by omega) (by omega)
                obtain ⟨m10, hm10⟩ : ∃ m, m = n - (k + 1) := ⟨_, rfl⟩
                obtain ⟨c10, hc10⟩ : ∃ m, m = c - (k + 1) := ⟨_, rfl⟩
                rw [← hm10, ← hc10] at hcut10
                replace hm10 := Lib.hid hm10
                clear hc10
                have hrd7 := (HG5.out.2.ext hBwx).take (k * 2)
                have hszx := hBx.size
                go_upto_region 8 with (first
                  | (at_builtin; refine wpList_append_rd _ rfl (.const (.slice none 0 0)) (.tmp 47) _ rfl w1.heap.size _ _ 2 48 hTP _ _ _ rfl (World.ownsRow_nil _ _ _ _) (some ad1) k c (xs.take (k * 2)) rfl (by rw [List.length_take, HG5.out.1]; omega) hrd7 (fun u hu => pair_cells HXS.out u (List.mem_of_mem_take hu)) (by unfold maxLen; omega) (by omega) hszx ?_; intro v7 w7 ho7 hg7 hat7)
                  | fail)
                rw [Nat.zero_add, List.nil_append] at ho7
                have hB7 := below_own hBx (World.ownsRow_nil _ w1.heap.size 51 2) (Nat.le_refl _) hg7 hszx
                have hBw7 := below_step hb1 hB7
                have y0 := HY0.out _ hB7
                clear hg7 hat7 hrd7
                have hset := Lib.hid (show setP P o.key o.left = P.take k ++ ((o.key, o.value) :: P.drop ((k + 1))) from by unfold Rec.left; rw [HDD.out]; exact hset0.out (some o.value))
                go_upto_region 9 with (fail)
                have hvq : ∀ x, v7.ownBlock = some x → w1.heap.size ≤ x ∧ x < w7.heap.size := fun x hx => ho7.lt x hx
                have hbx : ∀ x, v7.ownBlock = some x → w.heap.size < x := fun x hx => by have := (hvq x hx).1; omega
                have HY1g := Lib.hid (fun (w' : World) (hb : w7.drew.grownBy w' v7.ownBlock) => ((show Blk w7.drew _ _ _ from (hx1.ext hB7).drew).grown hb (fun e => by have := hbx _ e.symm; omega)).cellv (i := 1) rfl)
                have HY2g := Lib.hid (fun (w' : World) (hb : w7.drew.grownBy w' v7.ownBlock) => ((show Blk w7.drew _ _ _ from (hx1.ext hB7).drew).grown hb (fun e => by have := hbx _ e.symm; omega)).cellv (i := 2) rfl)
                have HB2g := Lib.hid (fun (w' : World) (hb : w7.drew.grownBy w' v7.ownBlock) => HKB.out _ ((below_drew hBw7).trans (grown_below hb (fun x hx => Nat.le_of_lt (hbx x hx)) (show w.heap.size ≤ w7.heap.size from hBw7.size))))
                have HB3g := Lib.hid (fun (w' : World) (hb : w7.drew.grownBy w' v7.ownBlock) => HVB.out _ ((below_drew hBw7).trans (grown_below hb (fun x hx => Nat.le_of_lt (hbx x hx)) (show w.heap.size ≤ w7.heap.size from hBw7.size))))
                have HVQ := Lib.hid (fun x hx => (hvq x hx).2)
                have hbq : w1.heap.size ≤ w7.heap.size := hB7.size
                obtain ⟨base, hbase⟩ : ∃ b, b = w1.heap.size := ⟨_, rfl⟩
                obtain ⟨q, hqq⟩ : ∃ q, q = w7.heap.size := ⟨_, rfl⟩
                have ho7' := ho7
                have hbq' := hbq
                rw [← hbase] at ho7' hbq'
                rw [← hqq] at hbq' HVQ
                refine wp_region_late 10 1 (by kernel_rfl) (by kernel_rfl) (by kernel_rfl) (fun w w' => w.grownBy w' v7.ownBlock) (fun _ => World.grownBy.refl _ _) (fun _ _ _ h k => h.trans k) (SSe w.heap.size q nk cK nv cV AK AV v7 o.key o.value) (SSe_stays w.heap.size q nk cK nv cV AK AV v7 o.key o.value HVQ.out) (JSg base q k nk nv (xs.take (k * 2)) v7 o.key o.value)
                  ⟨fun _ => ho7', fun e => (by cases e), fun e => (by cases e), Nat.le_of_eq hqq⟩ ?_ ?_
                · have hbq := hbq'
                  clear hx1 ho7 ho7' hvq hbx hbase hqq hBw7 hB7 y0
                  simp only [PhStep]
                  refine ⟨?_, ?_, ?_, ?_, ?_, ?_, ?_, ?_, ?_, ?_, ?_, trivial⟩
                  · intro L V w' hb hj hl hdo hcl hd
                    clear hdo hcl
                    clear hd
                    refine ⟨?_⟩
                    simp only [fillX, ne_eq, Nat.reduceEqDiff, not_false_eq_true, not_true_eq_false, if_true, if_false]
                    go_wp2
                    exact ⟨⟨rfl, rfl, World.grownBy.refl _ _, rfl⟩, (JSg_far _ _ _ _ _ _ _ _ _ hj (by decide) (by decide))⟩
                  · intro L V w' hb hj hl hdo hcl hd
                    clear hdo hcl
                    clear hd
                    refine ⟨?_⟩
                    simp only [fillX, ne_eq, Nat.reduceEqDiff, not_false_eq_true, not_true_eq_false, if_true, if_false]
                    go_wp2
                    exact ⟨⟨rfl, rfl, World.grownBy.refl _ _, rfl⟩, (JSg_far _ _ _ _ _ _ _ _ _ hj (by decide) (by decide))⟩
                  · intro L V w' hb hj hl hdo hcl hd
                    have q1 := HY1g.out _ hb
                    clear hdo hcl
                    simp only [DepFacts, SSe, Region.binds, forall_const, and_true] at hd
                    refine ⟨?_⟩
                    simp only [fillX, ne_eq, Nat.reduceEqDiff, not_false_eq_true, not_true_eq_false, if_true, if_false, hd]
                    clear hd
                    go_wp2
                    exact ⟨⟨rfl, rfl, World.grownBy.refl _ _, rfl⟩, JSg_far _ _ _ _ _ _ _ _ _ hj (by decide) (by decide)⟩
                  · intro L V w' hb hj hl hdo hcl hd
                    have h9 : L 9 = false := Bool.eq_false_iff.2 fun e => by have := hcl 7 3 (by kernel_rfl) (hcl 8 7 (by kernel_rfl) (hcl 9 8 (by kernel_rfl) e)); rw [this] at hl; cases hl
                    have h10 : L 10 = false := Bool.eq_false_iff.2 fun e => by have := hcl 10 9 (by kernel_rfl) e; rw [this] at h9; cases h9
                    have ho9 := hj.1 h9
                    have hq9 := hj.2.2.2
                    have hby := HB2g.out _ hb
                    clear hdo hcl
                    simp only [DepFacts, SSe, Region.binds, forall_const, and_true] at hd
                    refine ⟨?_⟩
                    simp only [fillX, ne_eq, Nat.reduceEqDiff, not_false_eq_true, not_true_eq_false, if_true, if_false, hd]
                    clear hd
                    simp only [Act.put, List.setIfInBounds_toArray, List.set_cons_zero, List.set_cons_succ]
                    go_wp2_with (first | (at_builtin; refine wpList_append_bytes rfl (.const (.slice none 0 0)) (.tmp 54) _ rfl w'.heap.size hTB (xs := []) rfl (World.ownsRow_nil _ _ _ _) rfl hby (by have := HNK.out; omega) (Nat.le_refl _) ?_; intro v2 w2 ho2 hg2 _; replace hg2 : World.grownBy w' w2 none := hg2) | fail)
                    rw [List.nil_append, Nat.zero_add, HNK.out] at ho2
                    obtain ⟨A2, c2, rfl, hby2⟩ := row_sl ho2
                    have hg2' : w'.grownBy w2 (Value.ownBlock v7) := ⟨hg2.os, hg2.tape, hg2.output, hg2.size, fun k hk _ => hg2.block k hk (by simp)⟩
                    refine ⟨⟨rfl, rfl, hg2', A2, c2, rfl, hby2, fun ad e => ?_⟩, JSg_new _ _ _ _ _ _ _ _ _ h9 h10 (by decide) (by decide) (ho9.kept hg2 (by cases v7.ownBlock <;> simp)) (Nat.le_trans hq9 hg2.size)⟩
                    subst e
                    exact ⟨Nat.le_trans hq9 (own_blk ho2).1, (own_blk ho2).2⟩
                  · intro L V w' hb hj hl hdo hcl hd
                    clear hdo hcl
                    clear hd
                    refine ⟨?_⟩
                    simp only [fillX, ne_eq, Nat.reduceEqDiff, not_false_eq_true, not_true_eq_false, if_true, if_false]
                    go_wp2
                    exact ⟨⟨rfl, rfl, World.grownBy.refl _ _, rfl⟩, (JSg_far _ _ _ _ _ _ _ _ _ hj (by decide) (by decide))⟩
                  · intro L V w' hb hj hl hdo hcl hd
                    have q1 := HY2g.out _ hb
                    clear hdo hcl
                    simp only [DepFacts, SSe, Region.binds, forall_const, and_true] at hd
                    refine ⟨?_⟩
                    simp only [fillX, ne_eq, Nat.reduceEqDiff, not_false_eq_true, not_true_eq_false, if_true, if_false, hd]
                    clear hd
                    go_wp2
                    exact ⟨⟨rfl, rfl, World.grownBy.refl _ _, rfl⟩, JSg_far _ _ _ _ _ _ _ _ _ hj (by decide) (by decide)⟩
                  · intro L V w' hb hj hl hdo hcl hd
                    have h9 : L 9 = false := Bool.eq_false_iff.2 fun e => by have := hcl 7 6 (by kernel_rfl) (hcl 8 7 (by kernel_rfl) (hcl 9 8 (by kernel_rfl) e)); rw [this] at hl; cases hl
                    have h10 : L 10 = false := Bool.eq_false_iff.2 fun e => by have := hcl 10 9 (by kernel_rfl) e; rw [this] at h9; cases h9
                    have ho9 := hj.1 h9
                    have hq9 := hj.2.2.2
                    have hby := HB3g.out _ hb
                    clear hdo hcl
                    simp only [DepFacts, SSe, Region.binds, forall_const, and_true] at hd
                    refine ⟨?_⟩
                    simp only [fillX, ne_eq, Nat.reduceEqDiff, not_false_eq_true, not_true_eq_false, if_true, if_false, hd]
                    clear hd
                    simp only [Act.put, List.setIfInBounds_toArray, List.set_cons_zero, List.set_cons_succ]
                    go_wp2_with (first | (at_builtin; refine wpList_append_bytes rfl (.const (.slice none 0 0)) (.tmp 57) _ rfl w'.heap.size hTB (xs := []) rfl (World.ownsRow_nil _ _ _ _) rfl hby (by have := HNV.out; omega) (Nat.le_refl _) ?_; intro v2 w2 ho2 hg2 _; replace hg2 : World.grownBy w' w2 none := hg2) | fail)
                    rw [List.nil_append, Nat.zero_add, HNV.out] at ho2
                    obtain ⟨A2, c2, rfl, hby2⟩ := row_sl ho2
                    have hg2' : w'.grownBy w2 (Value.ownBlock v7) := ⟨hg2.os, hg2.tape, hg2.output, hg2.size, fun k hk _ => hg2.block k hk (by simp)⟩
                    refine ⟨⟨rfl, rfl, hg2', A2, c2, rfl, hby2, fun ad e => ?_⟩, JSg_new _ _ _ _ _ _ _ _ _ h9 h10 (by decide) (by decide) (ho9.kept hg2 (by cases v7.ownBlock <;> simp)) (Nat.le_trans hq9 hg2.size)⟩
                    subst e
                    exact ⟨Nat.le_trans hq9 (own_blk ho2).1, (own_blk ho2).2⟩
                  · intro L V w' hb hj hl hdo hcl hd
                    clear hdo hcl
                    simp only [DepFacts, SSe, Region.binds, forall_const, and_true] at hd
                    obtain ⟨⟨A', c', e3, hy3, hq3⟩, B', d', e6, hy6, hq6⟩ := hd
                    refine ⟨?_⟩
                    simp only [fillX, ne_eq, Nat.reduceEqDiff, not_false_eq_true, not_true_eq_false, if_true, if_false, e3, e6]
                    go_wp2
                    exact ⟨⟨rfl, rfl, World.grownBy.refl _ _, A', c', B', d', rfl, hy3, hy6, hq3, hq6⟩, JSg_far _ _ _ _ _ _ _ _ _ hj (by decide) (by decide)⟩
                  · intro L V w' hb hj hl hdo hcl hd
                    have h9 : L 9 = false := Bool.eq_false_iff.2 fun e => by have := hcl 9 8 (by kernel_rfl) e; rw [this] at hl; cases hl
                    have h10 : L 10 = false := Bool.eq_false_iff.2 fun e => by have := hcl 10 9 (by kernel_rfl) e; rw [this] at h9; cases h9
                    have ho9 := hj.1 h9
                    have hq9 := hj.2.2.2
                    clear hdo hcl
                    simp only [DepFacts, SSe, Region.binds, forall_const, and_true] at hd
                    obtain ⟨A', c', B', d', e7, hy3, hy6, hq3, hq6⟩ := hd
                    refine ⟨?_⟩
                    simp only [fillX, ne_eq, Nat.reduceEqDiff, not_false_eq_true, not_true_eq_false, if_true, if_false, e7]
                    clear e7
                    simp only [Act.put, List.setIfInBounds_toArray, List.set_cons_zero, List.set_cons_succ]
                    go_wp2_with (first | (refine wpList_row_one rfl (.tmp 59) rfl hTP (by decide) (cs := #[.slice A' nk c', .slice B' nv d']) rfl rfl ?_; intro w7 hx7 hb7 hl7) | fail)
                    have hg7 : w'.grownBy w7 (Value.ownBlock v7) := ⟨hb7.os, hb7.tape, hb7.output, hb7.size, fun k hk _ => hb7.block k hk⟩
                    exact ⟨⟨rfl, rfl, hg7, w'.heap.size, A', c', B', d', rfl, hq9, hx7, hy3.ext hb7, hy6.ext hb7, fun ad e => ⟨(hq3 ad e).1, Nat.lt_of_lt_of_le (hq3 ad e).2 hb7.size⟩, fun ad e => ⟨(hq6 ad e).1, Nat.lt_of_lt_of_le (hq6 ad e).2 hb7.size⟩⟩, JSg_new _ _ _ _ _ _ _ _ _ h9 h10 (by decide) (by decide) (own_ext ho9 hb7) (Nat.le_trans hq9 hb7.size)⟩
                  · intro L V w' hb hj hl hdo hcl hd
                    have h10 : L 10 = false := Bool.eq_false_iff.2 fun e => by have := hcl 10 9 (by kernel_rfl) e; rw [this] at hl; cases hl
                    have ho9 := hj.1 hl
                    have hq9 := hj.2.2.2
                    clear hdo hcl
                    simp only [DepFacts, SSe, Region.binds, forall_const, and_true] at hd
                    obtain ⟨hv0, g, A', c', B', d', e8, hqg, hx8, hy3, hy6, hq3, hq6⟩ : V 0 = v7 ∧ SSe w.heap.size q nk cK nv cV AK AV v7 o.key o.value 8 (V 8) w' := by first | exact ⟨hd.1, hd.2.1⟩ | exact ⟨hd.1, hd.2⟩ | exact ⟨hd.2.1, hd.1⟩ | exact ⟨hd.1, hd.2.2⟩
                    clear hd
                    refine ⟨?_⟩
                    simp only [fillX, ne_eq, Nat.reduceEqDiff, not_false_eq_true, not_true_eq_false, if_true, if_false, hv0, e8]
                    clear hv0 e8
                    simp only [Act.put, List.setIfInBounds_toArray, List.set_cons_zero, List.set_cons_succ]
                    go_wp2_with (first | (at_builtin; refine wpList_append_rd _ rfl (.tmp 52) (.tmp 60) _ rfl base _ _ 2 48 hTP _ _ _ rfl ho9 (some ⟨g, 0, none⟩) 1 1 [.slice A' nk c', .slice B' nv d'] rfl rfl hx8.rd (by intro u hu; simp only [List.mem_cons, List.not_mem_nil, or_false] at hu; rcases hu with rfl | rfl <;> rfl) (by unfold maxLen; omega) (by omega) (Nat.le_trans hbq hq9) ?_; intro v2 w2 ho2 hg2 hat2) | fail)
                    have hlo : ∀ x, v7.ownBlock = some x → x < q := HVQ.out
                    have hy3' := hy3.grownB hg2 (fun ad e => fun e' => by have := (hq3 ad e).1; have := hlo _ e'.symm; omega)
                    have hy6' := hy6.grownB hg2 (fun ad e => fun e' => by have := (hq6 ad e).1; have := hlo _ e'.symm; omega)
                    exact ⟨⟨rfl, rfl, hg2, trivial⟩, JSg_nine _ _ _ _ _ _ _ _ _ h10 ⟨A', c', B', d', ho2, hy3', hy6', fun ad e => ⟨apart_blk hat2 hlo (hq3 ad e), (hq3 ad e).1⟩, fun ad e => ⟨apart_blk hat2 hlo (hq6 ad e), (hq6 ad e).1⟩⟩ (Nat.le_trans hq9 hg2.size)⟩
                  · intro L V w' hb hj hl hdo hcl hd
                    have h9 : L 9 = true := hdo 9 (by kernel_rfl)
                    have hon := hj.2.1 h9
                    have hq9 := hj.2.2.2
                    clear hdo hcl hd
                    refine ⟨?_⟩
                    simp only [fillX, ne_eq, Nat.reduceEqDiff, not_false_eq_true, not_true_eq_false, if_true, if_false]
                    go_wp2
                    exact ⟨⟨rfl, rfl, World.grownBy.refl _ _, trivial⟩, JSg_ten _ _ _ _ _ _ _ _ _ h9 hon hq9⟩
                · intro L V w9 hL hb9 hs hj
                  clear hs ho7' hbq'
                  obtain ⟨AA, cc, BB, dd, ho9, hya, hyv, hna, hnv9⟩ := hj.2.2.1 (hL 10 (by decide))
                  rw [hbase] at ho9
                  have HWQ := Lib.hid (show w.heap.size ≤ q by rw [hqq]; exact Nat.le_trans hb1.size hbq)
                  clear hbase hqq
                  have hB9 := below_own (show Below w1.heap.size w1 w7.drew from hB7.drew) (show w7.drew.ownsRow _ _ _ _ _ _ from ho7) (Nat.le_refl _) hb9 hbq
                  clear hL hj
                  simp only [fill]
                  try simp only [Exit.then]
                  try go_simp
                  have hsz := hB9.size
                  have hrd10 := hcutR _ _ HG5.out.1 (HG5.out.2.ext (below_step hb1 hB9))
                  go_wp2_with (first
                    | (at_builtin; refine wpList_append_rd _ rfl (.tmp 62) (.tmp 65) _ rfl w1.heap.size _ _ 2 48 hTP _ _ _ rfl ho9 A10 m10 c10 (xs.drop ((k + 1) * 2)) rfl (by rw [List.length_drop, HG5.out.1, hm10.out, Nat.sub_mul]) hrd10 (fun u hu => pair_cells HXS.out u (List.mem_of_mem_drop hu)) (by have := hm10.out; unfold maxLen; omega) (by have := hm10.out; omega) hsz ?_; intro v10 w10 ho10 hg10 hat10)
                    | fail)
                  have hB10 := below_own hB9 ho9 (Nat.le_refl _) hg10 hsz
                  have hBw10 := below_step hb1 hB10
                  go_ret
                  have hya10 := hya.grownB hg10 (fun ad e => fun e' => (hna ad e).1 e'.symm)
                  have hyv10 := hyv.grownB hg10 (fun ad e => fun e' => (hnv9 ad e).1 e'.symm)
                  have hrow := (((HXS.out.ext rPair_stays hBw10).take (m := k) (by have := HPL.out; omega)).append (RowC.one hya10 hyv10)).append ((HXS.out.ext rPair_stays hBw10).drop (m := (k + 1)) (by have := HPL.out; omega))
                  rw [List.append_assoc (P.take k), List.singleton_append] at hrow
                  refine ⟨_, rfl, ?_, hBw10⟩
                  rw [hset.out]
                  exact rowNew_of ho10 (Nat.le_of_lt_succ (Nat.lt_succ_of_le hb1.size)) hrow fun u hu => by
                    simp only [List.mem_append, List.mem_cons, List.not_mem_nil, or_false] at hu
                    rcases hu with (h | rfl | rfl) | h
                    · exact .inl (List.mem_of_mem_take h)
                    · exact .inr fun ad n c e => by injection e with e; exact Nat.le_trans HWQ.out (hna ad e).2
                    · exact .inr fun ad n c e => by injection e with e; exact Nat.le_trans HWQ.out (hnv9 ad e).2
                    · exact .inl (List.mem_of_mem_drop h)
              · -- gone
                have hcutK := cutp_h hTP (some ad1) n c (kh := .i64) (hi' := (k : Nat)) (hi := k) rfl (by omega)
                obtain ⟨A10, hcut10, hcutR⟩ := cutp_l hTP (some ad1) n c (kl := .i64) (lo' := ((k : Int) + 1)) (lo := (k + 1)) (by omega) (by omega) (by omega)
                obtain ⟨m10, hm10⟩ : ∃ m, m = n - (k + 1) := ⟨_, rfl⟩
                obtain ⟨c10, hc10⟩ : ∃ m, m = c - (k + 1) := ⟨_, rfl⟩
                rw [← hm10, ← hc10] at hcut10
                replace hm10 := Lib.hid hm10
                clear hc10
                have hrd7 := (HG5.out.2.ext hBwx).take (k * 2)
                have hszx := hBx.size
                go_upto_region 8 with (first
                  | (at_builtin; refine wpList_append_rd _ rfl (.const (.slice none 0 0)) (.tmp 47) _ rfl w1.heap.size _ _ 2 48 hTP _ _ _ rfl (World.ownsRow_nil _ _ _ _) (some ad1) k c (xs.take (k * 2)) rfl (by rw [List.length_take, HG5.out.1]; omega) hrd7 (fun u hu => pair_cells HXS.out u (List.mem_of_mem_take hu)) (by unfold maxLen; omega) (by omega) hszx ?_; intro v7 w7 ho7 hg7 hat7)
                  | fail)
                rw [Nat.zero_add, List.nil_append] at ho7
                have hB7 := below_own hBx (World.ownsRow_nil _ w1.heap.size 51 2) (Nat.le_refl _) hg7 hszx
                have hBw7 := below_step hb1 hB7
                have y0 := HY0.out _ hB7
                clear hg7 hat7 hrd7
                have hset := Lib.hid (show setP P o.key o.left = P.take k ++ P.drop ((k + 1)) from by unfold Rec.left; rw [HDD.out]; exact hset0.out none)
                have hsz := hB7.size
                have hrd10 := hcutR _ _ HG5.out.1 (HG5.out.2.ext (below_step hb1 hB7))
                go_wp2_with (first
                  | (at_builtin; refine wpList_append_rd _ rfl (.tmp 62) (.tmp 65) _ rfl w1.heap.size _ _ 2 48 hTP _ _ _ rfl ho7 A10 m10 c10 (xs.drop ((k + 1) * 2)) rfl (by rw [List.length_drop, HG5.out.1, hm10.out, Nat.sub_mul]) hrd10 (fun u hu => pair_cells HXS.out u (List.mem_of_mem_drop hu)) (by have := hm10.out; unfold maxLen; omega) (by have := hm10.out; omega) hsz ?_; intro v10 w10 ho10 hg10 hat10)
                  | fail)
                have hB10 := below_own hB7 ho7 (Nat.le_refl _) hg10 hsz
                have hBw10 := below_step hb1 hB10
                go_ret
                have hrow := ((HXS.out.ext rPair_stays hBw10).take (m := k) (by have := HPL.out; omega)).append ((HXS.out.ext rPair_stays hBw10).drop (m := (k + 1)) (by have := HPL.out; omega))
                refine ⟨_, rfl, ?_, hBw10⟩
                rw [hset.out]
                exact rowNew_of ho10 (Nat.le_of_lt_succ (Nat.lt_succ_of_le hb1.size)) hrow fun u hu => by
                  simp only [List.mem_append] at hu
                  rcases hu with h | h
                  · exact .inl (List.mem_of_mem_take h)
                  · exact .inl (List.mem_of_mem_drop h)
        · -- on
          go_wp2
          go_roundw
          case rel =>
            refine ⟨k + 1, by omega, by go_num, fun p h => ?_, hB12⟩
            obtain ⟨hk', hq'⟩ := List.getElem?_eq_some_iff.1 hp
            rw [List.take_succ_eq_append_getElem hk', hq'] at h
            rcases List.mem_append.1 h with h | h
            · exact hlo p h
            · rw [List.mem_singleton.1 h]
              exact hres.out.symm
          case measure => simp [RowKit.intOf]; omega
    · obtain rfl : k = n := by omega
      have f1 : decide ((k : Int) < k) = false := decide_eq_false (by omega)
      go_upto_region 2 with (fail)
      refine wp_region_each (by kernel_rfl) (by kernel_rfl) (by kernel_rfl) (fun w w' => Below w.heap.size w w') (fun w => Below.refl _ _) (fun x y z h1 h2 => below_step h1 h2) (SC2o A k c k) (SC2o_stays _ _ _ _) ?_ ?_
      · simp only [EachStep]
        refine ⟨?_, ?_, ?_, ?_, ?_, ?_, ?_, ?_, ?_, ?_, ?_, ?_, ?_, ?_, ?_, ?_, trivial⟩
        · intro V w' hb hd
          clear hd
          refine ⟨?_⟩
          simp only [fill]
          go_wp2
          exact ⟨rfl, rfl, Below.refl _ _, rfl⟩
        · intro V w' hb hd
          clear hd
          refine ⟨?_⟩
          simp only [fill]
          go_wp2
          exact ⟨rfl, rfl, Below.refl _ _, rfl⟩
        · intro V w' hb hd
          simp only [DepFacts, SC2o, Region.binds, forall_const, and_true] at hd
          refine ⟨?_⟩
          simp only [fill, hd]
          clear hd
          go_wp2
          exact ⟨rfl, rfl, Below.refl _ _, rfl⟩
        · intro V w' hb hd
          simp only [DepFacts, SC2o, Region.binds, forall_const, and_true] at hd
          refine ⟨?_⟩
          simp only [fill, hd]
          clear hd
          go_wp2
          exact ⟨rfl, rfl, Below.refl _ _, rfl⟩
        · intro V w' hb hd
          simp only [DepFacts, SC2o, Region.binds, forall_const, and_true] at hd
          refine ⟨?_⟩
          simp only [fill, hd]
          clear hd
          go_wp2
          exact ⟨rfl, rfl, Below.refl _ _, rfl⟩
        · intro V w' hb hd
          simp only [DepFacts, SC2o, Region.binds, forall_const, and_true] at hd
          refine ⟨?_⟩
          simp only [fill, hd]
          clear hd
          go_wp2
          exact ⟨rfl, rfl, Below.refl _ _, trivial⟩
        · intro V w' hb hd
          simp only [DepFacts, SC2o, Region.binds, forall_const, and_true] at hd
          refine ⟨?_⟩
          simp only [fill, hd]
          clear hd
          go_wp2
          exact ⟨rfl, rfl, Below.refl _ _, trivial⟩
        · intro V w' hb hd
          simp only [DepFacts, SC2o, Region.binds, forall_const, and_true, true_and] at hd
          refine ⟨?_⟩
          simp only [fill, hd]
          clear hd
          go_wp2
          exact ⟨rfl, rfl, Below.refl _ _, trivial⟩
        · intro V w' hb hd
          simp only [DepFacts, SC2o, Region.binds, forall_const, and_true, true_and] at hd
          refine ⟨?_⟩
          simp only [fill, hd]
          clear hd
          go_wp2
          exact ⟨rfl, rfl, Below.refl _ _, trivial⟩
        · intro V w' hb hd
          simp only [DepFacts, SC2o, Region.binds, forall_const, and_true, true_and] at hd
          refine ⟨?_⟩
          simp only [fill, hd]
          clear hd
          go_wp2
          exact ⟨rfl, rfl, Below.refl _ _, trivial⟩
        · intro V w' hb hd
          simp only [DepFacts, SC2o, Region.binds, forall_const, and_true, true_and] at hd
          refine ⟨?_⟩
          simp only [fill, hd]
          clear hd
          go_wp2
          exact ⟨rfl, rfl, Below.refl _ _, trivial⟩
        · intro V w' hb hd
          simp only [DepFacts, SC2o, Region.binds, forall_const, and_true] at hd
          refine ⟨?_⟩
          simp only [fill, hd]
          clear hd
          go_wp2
          exact ⟨rfl, rfl, Below.refl _ _, trivial⟩
        · intro V w' hb hd
          simp only [DepFacts, SC2o, Region.binds, forall_const, and_true, true_and] at hd
          refine ⟨?_⟩
          simp only [fill, hd]
          clear hd
          go_wp2
          exact ⟨rfl, rfl, Below.refl _ _, trivial⟩
        · intro V w' hb hd
          simp only [DepFacts, SC2o, Region.binds, forall_const, and_true, true_and] at hd
          refine ⟨?_⟩
          simp only [fill, hd]
          clear hd
          go_wp2
          exact ⟨rfl, rfl, Below.refl _ _, trivial⟩
        · intro V w' hb hd
          simp only [DepFacts, SC2o, Region.binds, forall_const, and_true, true_and] at hd
          refine ⟨?_⟩
          simp only [fill, hd]
          clear hd
          go_wp2
          exact ⟨rfl, rfl, Below.refl _ _, trivial⟩
        · intro V w' hb hd
          simp only [DepFacts, SC2o, Region.binds, forall_const, and_true] at hd
          refine ⟨?_⟩
          simp only [fill, hd]
          clear hd
          go_wp2
          exact ⟨rfl, rfl, Below.refl _ _, rfl⟩
      · intro V w12 hb12 hV
        simp only [SFacts, SC2o] at hV
        have h15 := hV.2.2.2.2.2.2.2.2.2.2.2.2.2.2.2.1
        clear hV
        simp only [fill, h15]
        clear h15
        try simp only [Exit.then]
        try go_simp
        have hB12 := below_step (below_drew hBr) hb12
        have hB12w := below_step hb1 hB12
        go_upto_region 5 with (fail)
        refine wp_region_each (by kernel_rfl) (by kernel_rfl) (by kernel_rfl) (fun w w' => Below w.heap.size w w') (fun w => Below.refl _ _) (fun x y z h1 h2 => below_step h1 h2) (SC5o A k c k) (SC5o_stays _ _ _ _) ?_ ?_
        · simp only [EachStep]
          refine ⟨?_, ?_, ?_, ?_, ?_, ?_, ?_, ?_, ?_, ?_, ?_, ?_, ?_, ?_, ?_, ?_, trivial⟩
          · intro V w' hb hd
            clear hd
            refine ⟨?_⟩
            simp only [fill]
            go_wp2
            exact ⟨rfl, rfl, Below.refl _ _, rfl⟩
          · intro V w' hb hd
            clear hd
            refine ⟨?_⟩
            simp only [fill]
            go_wp2
            exact ⟨rfl, rfl, Below.refl _ _, rfl⟩
          · intro V w' hb hd
            simp only [DepFacts, SC5o, Region.binds, forall_const, and_true] at hd
            refine ⟨?_⟩
            simp only [fill, hd]
            clear hd
            go_wp2
            exact ⟨rfl, rfl, Below.refl _ _, rfl⟩
          · intro V w' hb hd
            simp only [DepFacts, SC5o, Region.binds, forall_const, and_true] at hd
            refine ⟨?_⟩
            simp only [fill, hd]
            clear hd
            go_wp2
            exact ⟨rfl, rfl, Below.refl _ _, rfl⟩
          · intro V w' hb hd
            simp only [DepFacts, SC5o, Region.binds, forall_const, and_true] at hd
            refine ⟨?_⟩
            simp only [fill, hd]
            clear hd
            go_wp2
            exact ⟨rfl, rfl, Below.refl _ _, rfl⟩
          · intro V w' hb hd
            simp only [DepFacts, SC5o, Region.binds, forall_const, and_true] at hd
            refine ⟨?_⟩
            simp only [fill, hd]
            clear hd
            go_wp2
            exact ⟨rfl, rfl, Below.refl _ _, trivial⟩
          · intro V w' hb hd
            simp only [DepFacts, SC5o, Region.binds, forall_const, and_true] at hd
            refine ⟨?_⟩
            simp only [fill, hd]
            clear hd
            go_wp2
            exact ⟨rfl, rfl, Below.refl _ _, trivial⟩
          · intro V w' hb hd
            simp only [DepFacts, SC5o, Region.binds, forall_const, and_true, true_and] at hd
            refine ⟨?_⟩
            simp only [fill, hd]
            clear hd
            go_wp2
            exact ⟨rfl, rfl, Below.refl _ _, trivial⟩
          · intro V w' hb hd
            simp only [DepFacts, SC5o, Region.binds, forall_const, and_true, true_and] at hd
            refine ⟨?_⟩
            simp only [fill, hd]
            clear hd
            go_wp2
            exact ⟨rfl, rfl, Below.refl _ _, trivial⟩
          · intro V w' hb hd
            simp only [DepFacts, SC5o, Region.binds, forall_const, and_true, true_and] at hd
            refine ⟨?_⟩
            simp only [fill, hd]
            clear hd
            go_wp2
            exact ⟨rfl, rfl, Below.refl _ _, trivial⟩
          · intro V w' hb hd
            simp only [DepFacts, SC5o, Region.binds, forall_const, and_true, true_and] at hd
            refine ⟨?_⟩
            simp only [fill, hd]
            clear hd
            go_wp2
            exact ⟨rfl, rfl, Below.refl _ _, trivial⟩
          · intro V w' hb hd
            simp only [DepFacts, SC5o, Region.binds, forall_const, and_true] at hd
            refine ⟨?_⟩
            simp only [fill, hd]
            clear hd
            go_wp2
            exact ⟨rfl, rfl, Below.refl _ _, trivial⟩
          · intro V w' hb hd
            simp only [DepFacts, SC5o, Region.binds, forall_const, and_true, true_and] at hd
            refine ⟨?_⟩
            simp only [fill, hd]
            clear hd
            go_wp2
            exact ⟨rfl, rfl, Below.refl _ _, trivial⟩
          · intro V w' hb hd
            simp only [DepFacts, SC5o, Region.binds, forall_const, and_true, true_and] at hd
            refine ⟨?_⟩
            simp only [fill, hd]
            clear hd
            go_wp2
            exact ⟨rfl, rfl, Below.refl _ _, trivial⟩
          · intro V w' hb hd
            simp only [DepFacts, SC5o, Region.binds, forall_const, and_true, true_and] at hd
            refine ⟨?_⟩
            simp only [fill, hd]
            clear hd
            go_wp2
            exact ⟨rfl, rfl, Below.refl _ _, trivial⟩
          · intro V w' hb hd
            simp only [DepFacts, SC5o, Region.binds, forall_const, and_true] at hd
            refine ⟨?_⟩
            simp only [fill, hd]
            clear hd
            go_wp2
            exact ⟨rfl, rfl, Below.refl _ _, rfl⟩
        · intro V w13 hb13 hV
          simp only [SFacts, SC5o] at hV
          have h15 := hV.2.2.2.2.2.2.2.2.2.2.2.2.2.2.2.1
          clear hV
          simp only [fill, h15]
          clear h15
          try simp only [Exit.then]
          try go_simp
          have hB13 := below_step (below_drew hB12) hb13
          have hB13w := below_step hb1 hB13
          have hBx := hB13
          have hBwx := hB13w
          have hset0 := Lib.hid (fun q => set_at (tail := k) hP (key := o.key) q (by have := HPL.out; omega) hlo (fun p h => by rw [List.getElem?_eq_none (by have := HPL.out; omega)] at h; cases h) (.inl ⟨rfl, (fun p h => by rw [List.getElem?_eq_none (by have := HPL.out; omega)] at h; cases h)⟩))
          cases dl
          · -- there
            have hcutK := cutp_h hTP A k c (kh := .i64) (hi' := (k : Nat)) (hi := k) rfl (by omega)
            obtain ⟨A10, hcut10, hcutR⟩ := cutp_l hTP A k c (kl := .i64) (lo' := (k : Int)) (lo := k) rfl (by omega) (by omega)
            obtain ⟨m10, hm10⟩ : ∃ m, m = k - k := ⟨_, rfl⟩
            obtain ⟨c10, hc10⟩ : ∃ m, m = c - k := ⟨_, rfl⟩
            rw [← hm10, ← hc10] at hcut10
            replace hm10 := Lib.hid hm10
            clear hc10
            have hrd7 := (HG5.out.2.ext hBwx).take (k * 2)
            have hszx := hBx.size
            go_upto_region 8 with (first
              | (at_builtin; refine wpList_append_rd _ rfl (.const (.slice none 0 0)) (.tmp 47) _ rfl w1.heap.size _ _ 2 48 hTP _ _ _ rfl (World.ownsRow_nil _ _ _ _) A k c (xs.take (k * 2)) rfl (by rw [List.length_take, HG5.out.1]; omega) hrd7 (fun u hu => pair_cells HXS.out u (List.mem_of_mem_take hu)) (by unfold maxLen; omega) (by omega) hszx ?_; intro v7 w7 ho7 hg7 hat7)
              | fail)
            rw [Nat.zero_add, List.nil_append] at ho7
            have hB7 := below_own hBx (World.ownsRow_nil _ w1.heap.size 51 2) (Nat.le_refl _) hg7 hszx
            have hBw7 := below_step hb1 hB7
            have y0 := HY0.out _ hB7
            clear hg7 hat7 hrd7
            have hset := Lib.hid (show setP P o.key o.left = P.take k ++ ((o.key, o.value) :: P.drop (k)) from by unfold Rec.left; rw [HDD.out]; exact hset0.out (some o.value))
            go_upto_region 9 with (fail)
            have hvq : ∀ x, v7.ownBlock = some x → w1.heap.size ≤ x ∧ x < w7.heap.size := fun x hx => ho7.lt x hx
            have hbx : ∀ x, v7.ownBlock = some x → w.heap.size < x := fun x hx => by have := (hvq x hx).1; omega
            have HY1g := Lib.hid (fun (w' : World) (hb : w7.drew.grownBy w' v7.ownBlock) => ((show Blk w7.drew _ _ _ from (hx1.ext hB7).drew).grown hb (fun e => by have := hbx _ e.symm; omega)).cellv (i := 1) rfl)
            have HY2g := Lib.hid (fun (w' : World) (hb : w7.drew.grownBy w' v7.ownBlock) => ((show Blk w7.drew _ _ _ from (hx1.ext hB7).drew).grown hb (fun e => by have := hbx _ e.symm; omega)).cellv (i := 2) rfl)
            have HB2g := Lib.hid (fun (w' : World) (hb : w7.drew.grownBy w' v7.ownBlock) => HKB.out _ ((below_drew hBw7).trans (grown_below hb (fun x hx => Nat.le_of_lt (hbx x hx)) (show w.heap.size ≤ w7.heap.size from hBw7.size))))
            have HB3g := Lib.hid (fun (w' : World) (hb : w7.drew.grownBy w' v7.ownBlock) => HVB.out _ ((below_drew hBw7).trans (grown_below hb (fun x hx => Nat.le_of_lt (hbx x hx)) (show w.heap.size ≤ w7.heap.size from hBw7.size))))
            have HVQ := Lib.hid (fun x hx => (hvq x hx).2)
            have hbq : w1.heap.size ≤ w7.heap.size := hB7.size
            obtain ⟨base, hbase⟩ : ∃ b, b = w1.heap.size := ⟨_, rfl⟩
            obtain ⟨q, hqq⟩ : ∃ q, q = w7.heap.size := ⟨_, rfl⟩
            have ho7' := ho7
            have hbq' := hbq
            rw [← hbase] at ho7' hbq'
            rw [← hqq] at hbq' HVQ
            refine wp_region_late 10 1 (by kernel_rfl) (by kernel_rfl) (by kernel_rfl) (fun w w' => w.grownBy w' v7.ownBlock) (fun _ => World.grownBy.refl _ _) (fun _ _ _ h k => h.trans k) (SSe w.heap.size q nk cK nv cV AK AV v7 o.key o.value) (SSe_stays w.heap.size q nk cK nv cV AK AV v7 o.key o.value HVQ.out) (JSg base q k nk nv (xs.take (k * 2)) v7 o.key o.value)
              ⟨fun _ => ho7', fun e => (by cases e), fun e => (by cases e), Nat.le_of_eq hqq⟩ ?_ ?_
            · have hbq := hbq'
              clear hx1 ho7 ho7' hvq hbx hbase hqq hBw7 hB7 y0
              simp only [PhStep]
              refine ⟨?_, ?_, ?_, ?_, ?_, ?_, ?_, ?_, ?_, ?_, ?_, trivial⟩
              · intro L V w' hb hj hl hdo hcl hd
                clear hdo hcl
                clear hd
                refine ⟨?_⟩
                simp only [fillX, ne_eq, Nat.reduceEqDiff, not_false_eq_true, not_true_eq_false, if_true, if_false]
                go_wp2
                exact ⟨⟨rfl, rfl, World.grownBy.refl _ _, rfl⟩, (JSg_far _ _ _ _ _ _ _ _ _ hj (by decide) (by decide))⟩
              · intro L V w' hb hj hl hdo hcl hd
                clear hdo hcl
                clear hd
                refine ⟨?_⟩
                simp only [fillX, ne_eq, Nat.reduceEqDiff, not_false_eq_true, not_true_eq_false, if_true, if_false]
                go_wp2
                exact ⟨⟨rfl, rfl, World.grownBy.refl _ _, rfl⟩, (JSg_far _ _ _ _ _ _ _ _ _ hj (by decide) (by decide))⟩
              · intro L V w' hb hj hl hdo hcl hd
                have q1 := HY1g.out _ hb
                clear hdo hcl
                simp only [DepFacts, SSe, Region.binds, forall_const, and_true] at hd
                refine ⟨?_⟩
                simp only [fillX, ne_eq, Nat.reduceEqDiff, not_false_eq_true, not_true_eq_false, if_true, if_false, hd]
                clear hd
                go_wp2
                exact ⟨⟨rfl, rfl, World.grownBy.refl _ _, rfl⟩, JSg_far _ _ _ _ _ _ _ _ _ hj (by decide) (by decide)⟩
              · intro L V w' hb hj hl hdo hcl hd
                have h9 : L 9 = false := Bool.eq_false_iff.2 fun e => by have := hcl 7 3 (by kernel_rfl) (hcl 8 7 (by kernel_rfl) (hcl 9 8 (by kernel_rfl) e)); rw [this] at hl; cases hl
                have h10 : L 10 = false := Bool.eq_false_iff.2 fun e => by have := hcl 10 9 (by kernel_rfl) e; rw [this] at h9; cases h9
                have ho9 := hj.1 h9
                have hq9 := hj.2.2.2
                have hby := HB2g.out _ hb
                clear hdo hcl
                simp only [DepFacts, SSe, Region.binds, forall_const, and_true] at hd
                refine ⟨?_⟩
                simp only [fillX, ne_eq, Nat.reduceEqDiff, not_false_eq_true, not_true_eq_false, if_true, if_false, hd]
                clear hd
                simp only [Act.put, List.setIfInBounds_toArray, List.set_cons_zero, List.set_cons_succ]
                go_wp2_with (first | (at_builtin; refine wpList_append_bytes rfl (.const (.slice none 0 0)) (.tmp 54) _ rfl w'.heap.size hTB (xs := []) rfl (World.ownsRow_nil _ _ _ _) rfl hby (by have := HNK.out; omega) (Nat.le_refl _) ?_; intro v2 w2 ho2 hg2 _; replace hg2 : World.grownBy w' w2 none := hg2) | fail)
                rw [List.nil_append, Nat.zero_add, HNK.out] at ho2
                obtain ⟨A2, c2, rfl, hby2⟩ := row_sl ho2
                have hg2' : w'.grownBy w2 (Value.ownBlock v7) := ⟨hg2.os, hg2.tape, hg2.output, hg2.size, fun k hk _ => hg2.block k hk (by simp)⟩
                refine ⟨⟨rfl, rfl, hg2', A2, c2, rfl, hby2, fun ad e => ?_⟩, JSg_new _ _ _ _ _ _ _ _ _ h9 h10 (by decide) (by decide) (ho9.kept hg2 (by cases v7.ownBlock <;> simp)) (Nat.le_trans hq9 hg2.size)⟩
                subst e
                exact ⟨Nat.le_trans hq9 (own_blk ho2).1, (own_blk ho2).2⟩
              · intro L V w' hb hj hl hdo hcl hd
                clear hdo hcl
                clear hd
                refine ⟨?_⟩
                simp only [fillX, ne_eq, Nat.reduceEqDiff, not_false_eq_true, not_true_eq_false, if_true, if_false]
                go_wp2
                exact ⟨⟨rfl, rfl, World.grownBy.refl _ _, rfl⟩, (JSg_far _ _ _ _ _ _ _ _ _ hj (by decide) (by decide))⟩
              · intro L V w' hb hj hl hdo hcl hd
                have q1 := HY2g.out _ hb
                clear hdo hcl
                simp only [DepFacts, SSe, Region.binds, forall_const, and_true] at hd
                refine ⟨?_⟩
                simp only [fillX, ne_eq, Nat.reduceEqDiff, not_false_eq_true, not_true_eq_false, if_true, if_false, hd]
                clear hd
                go_wp2
                exact ⟨⟨rfl, rfl, World.grownBy.refl _ _, rfl⟩, JSg_far _ _ _ _ _ _ _ _ _ hj (by decide) (by decide)⟩
              · intro L V w' hb hj hl hdo hcl hd
                have h9 : L 9 = false := Bool.eq_false_iff.2 fun e => by have := hcl 7 6 (by kernel_rfl) (hcl 8 7 (by kernel_rfl) (hcl 9 8 (by kernel_rfl) e)); rw [this] at hl; cases hl
                have h10 : L 10 = false := Bool.eq_false_iff.2 fun e => by have := hcl 10 9 (by kernel_rfl) e; rw [this] at h9; cases h9
                have ho9 := hj.1 h9
                have hq9 := hj.2.2.2
                have hby := HB3g.out _ hb
                clear hdo hcl
                simp only [DepFacts, SSe, Region.binds, forall_const, and_true] at hd
                refine ⟨?_⟩
                simp only [fillX, ne_eq, Nat.reduceEqDiff, not_false_eq_true, not_true_eq_false, if_true, if_false, hd]
                clear hd
                simp only [Act.put, List.setIfInBounds_toArray, List.set_cons_zero, List.set_cons_succ]
                go_wp2_with (first | (at_builtin; refine wpList_append_bytes rfl (.const (.slice none 0 0)) (.tmp 57) _ rfl w'.heap.size hTB (xs := []) rfl (World.ownsRow_nil _ _ _ _) rfl hby (by have := HNV.out; omega) (Nat.le_refl _) ?_; intro v2 w2 ho2 hg2 _; replace hg2 : World.grownBy w' w2 none := hg2) | fail)
                rw [List.nil_append, Nat.zero_add, HNV.out] at ho2
                obtain ⟨A2, c2, rfl, hby2⟩ := row_sl ho2
                have hg2' : w'.grownBy w2 (Value.ownBlock v7) := ⟨hg2.os, hg2.tape, hg2.output, hg2.size, fun k hk _ => hg2.block k hk (by simp)⟩
                refine ⟨⟨rfl, rfl, hg2', A2, c2, rfl, hby2, fun ad e => ?_⟩, JSg_new _ _ _ _ _ _ _ _ _ h9 h10 (by decide) (by decide) (ho9.kept hg2 (by cases v7.ownBlock <;> simp)) (Nat.le_trans hq9 hg2.size)⟩
                subst e
                exact ⟨Nat.le_trans hq9 (own_blk ho2).1, (own_blk ho2).2⟩
              · intro L V w' hb hj hl hdo hcl hd
                clear hdo hcl
                simp only [DepFacts, SSe, Region.binds, forall_const, and_true] at hd
                obtain ⟨⟨A', c', e3, hy3, hq3⟩, B', d', e6, hy6, hq6⟩ := hd
                refine ⟨?_⟩
                simp only [fillX, ne_eq, Nat.reduceEqDiff, not_false_eq_true, not_true_eq_false, if_true, if_false, e3, e6]
                go_wp2
                exact ⟨⟨rfl, rfl, World.grownBy.refl _ _, A', c', B', d', rfl, hy3, hy6, hq3, hq6⟩, JSg_far _ _ _ _ _ _ _ _ _ hj (by decide) (by decide)⟩
              · intro L V w' hb hj hl hdo hcl hd
                have h9 : L 9 = false := Bool.eq_false_iff.2 fun e => by have := hcl 9 8 (by kernel_rfl) e; rw [this] at hl; cases hl
                have h10 : L 10 = false := Bool.eq_false_iff.2 fun e => by have := hcl 10 9 (by kernel_rfl) e; rw [this] at h9; cases h9
                have ho9 := hj.1 h9
                have hq9 := hj.2.2.2
                clear hdo hcl
                simp only [DepFacts, SSe, Region.binds, forall_const, and_true] at hd
                obtain ⟨A', c', B', d', e7, hy3, hy6, hq3, hq6⟩ := hd
                refine ⟨?_⟩
                simp only [fillX, ne_eq, Nat.reduceEqDiff, not_false_eq_true, not_true_eq_false, if_true, if_false, e7]
                clear e7
                simp only [Act.put, List.setIfInBounds_toArray, List.set_cons_zero, List.set_cons_succ]
                go_wp2_with (first | (refine wpList_row_one rfl (.tmp 59) rfl hTP (by decide) (cs := #[.slice A' nk c', .slice B' nv d']) rfl rfl ?_; intro w7 hx7 hb7 hl7) | fail)
                have hg7 : w'.grownBy w7 (Value.ownBlock v7) := ⟨hb7.os, hb7.tape, hb7.output, hb7.size, fun k hk _ => hb7.block k hk⟩
                exact ⟨⟨rfl, rfl, hg7, w'.heap.size, A', c', B', d', rfl, hq9, hx7, hy3.ext hb7, hy6.ext hb7, fun ad e => ⟨(hq3 ad e).1, Nat.lt_of_lt_of_le (hq3 ad e).2 hb7.size⟩, fun ad e => ⟨(hq6 ad e).1, Nat.lt_of_lt_of_le (hq6 ad e).2 hb7.size⟩⟩, JSg_new _ _ _ _ _ _ _ _ _ h9 h10 (by decide) (by decide) (own_ext ho9 hb7) (Nat.le_trans hq9 hb7.size)⟩
              · intro L V w' hb hj hl hdo hcl hd
                have h10 : L 10 = false := Bool.eq_false_iff.2 fun e => by have := hcl 10 9 (by kernel_rfl) e; rw [this] at hl; cases hl
                have ho9 := hj.1 hl
                have hq9 := hj.2.2.2
                clear hdo hcl
                simp only [DepFacts, SSe, Region.binds, forall_const, and_true] at hd
                obtain ⟨hv0, g, A', c', B', d', e8, hqg, hx8, hy3, hy6, hq3, hq6⟩ : V 0 = v7 ∧ SSe w.heap.size q nk cK nv cV AK AV v7 o.key o.value 8 (V 8) w' := by first | exact ⟨hd.1, hd.2.1⟩ | exact ⟨hd.1, hd.2⟩ | exact ⟨hd.2.1, hd.1⟩ | exact ⟨hd.1, hd.2.2⟩
                clear hd
                refine ⟨?_⟩
                simp only [fillX, ne_eq, Nat.reduceEqDiff, not_false_eq_true, not_true_eq_false, if_true, if_false, hv0, e8]
                clear hv0 e8
                simp only [Act.put, List.setIfInBounds_toArray, List.set_cons_zero, List.set_cons_succ]
                go_wp2_with (first | (at_builtin; refine wpList_append_rd _ rfl (.tmp 52) (.tmp 60) _ rfl base _ _ 2 48 hTP _ _ _ rfl ho9 (some ⟨g, 0, none⟩) 1 1 [.slice A' nk c', .slice B' nv d'] rfl rfl hx8.rd (by intro u hu; simp only [List.mem_cons, List.not_mem_nil, or_false] at hu; rcases hu with rfl | rfl <;> rfl) (by unfold maxLen; omega) (by omega) (Nat.le_trans hbq hq9) ?_; intro v2 w2 ho2 hg2 hat2) | fail)
                have hlo : ∀ x, v7.ownBlock = some x → x < q := HVQ.out
                have hy3' := hy3.grownB hg2 (fun ad e => fun e' => by have := (hq3 ad e).1; have := hlo _ e'.symm; omega)
                have hy6' := hy6.grownB hg2 (fun ad e => fun e' => by have := (hq6 ad e).1; have := hlo _ e'.symm; omega)
                exact ⟨⟨rfl, rfl, hg2, trivial⟩, JSg_nine _ _ _ _ _ _ _ _ _ h10 ⟨A', c', B', d', ho2, hy3', hy6', fun ad e => ⟨apart_blk hat2 hlo (hq3 ad e), (hq3 ad e).1⟩, fun ad e => ⟨apart_blk hat2 hlo (hq6 ad e), (hq6 ad e).1⟩⟩ (Nat.le_trans hq9 hg2.size)⟩
              · intro L V w' hb hj hl hdo hcl hd
                have h9 : L 9 = true := hdo 9 (by kernel_rfl)
                have hon := hj.2.1 h9
                have hq9 := hj.2.2.2
                clear hdo hcl hd
                refine ⟨?_⟩
                simp only [fillX, ne_eq, Nat.reduceEqDiff, not_false_eq_true, not_true_eq_false, if_true, if_false]
                go_wp2
                exact ⟨⟨rfl, rfl, World.grownBy.refl _ _, trivial⟩, JSg_ten _ _ _ _ _ _ _ _ _ h9 hon hq9⟩
            · intro L V w9 hL hb9 hs hj
              clear hs ho7' hbq'
              obtain ⟨AA, cc, BB, dd, ho9, hya, hyv, hna, hnv9⟩ := hj.2.2.1 (hL 10 (by decide))
              rw [hbase] at ho9
              have HWQ := Lib.hid (show w.heap.size ≤ q by rw [hqq]; exact Nat.le_trans hb1.size hbq)
              clear hbase hqq
              have hB9 := below_own (show Below w1.heap.size w1 w7.drew from hB7.drew) (show w7.drew.ownsRow _ _ _ _ _ _ from ho7) (Nat.le_refl _) hb9 hbq
              clear hL hj
              simp only [fill]
              try simp only [Exit.then]
              try go_simp
              have hsz := hB9.size
              have hrd10 := hcutR _ _ HG5.out.1 (HG5.out.2.ext (below_step hb1 hB9))
              go_wp2_with (first
                | (at_builtin; refine wpList_append_rd _ rfl (.tmp 62) (.tmp 65) _ rfl w1.heap.size _ _ 2 48 hTP _ _ _ rfl ho9 A10 m10 c10 (xs.drop (k * 2)) rfl (by rw [List.length_drop, HG5.out.1, hm10.out, Nat.sub_mul]) hrd10 (fun u hu => pair_cells HXS.out u (List.mem_of_mem_drop hu)) (by have := hm10.out; unfold maxLen; omega) (by have := hm10.out; omega) hsz ?_; intro v10 w10 ho10 hg10 hat10)
                | fail)
              have hB10 := below_own hB9 ho9 (Nat.le_refl _) hg10 hsz
              have hBw10 := below_step hb1 hB10
              go_ret
              have hya10 := hya.grownB hg10 (fun ad e => fun e' => (hna ad e).1 e'.symm)
              have hyv10 := hyv.grownB hg10 (fun ad e => fun e' => (hnv9 ad e).1 e'.symm)
              have hrow := (((HXS.out.ext rPair_stays hBw10).take (m := k) (by have := HPL.out; omega)).append (RowC.one hya10 hyv10)).append ((HXS.out.ext rPair_stays hBw10).drop (m := k) (by have := HPL.out; omega))
              rw [List.append_assoc (P.take k), List.singleton_append] at hrow
              refine ⟨_, rfl, ?_, hBw10⟩
              rw [hset.out]
              exact rowNew_of ho10 (Nat.le_of_lt_succ (Nat.lt_succ_of_le hb1.size)) hrow fun u hu => by
                simp only [List.mem_append, List.mem_cons, List.not_mem_nil, or_false] at hu
                rcases hu with (h | rfl | rfl) | h
                · exact .inl (List.mem_of_mem_take h)
                · exact .inr fun ad n c e => by injection e with e; exact Nat.le_trans HWQ.out (hna ad e).2
                · exact .inr fun ad n c e => by injection e with e; exact Nat.le_trans HWQ.out (hnv9 ad e).2
                · exact .inl (List.mem_of_mem_drop h)
          · -- gone
            have hcutK := cutp_h hTP A k c (kh := .i64) (hi' := (k : Nat)) (hi := k) rfl (by omega)
            obtain ⟨A10, hcut10, hcutR⟩ := cutp_l hTP A k c (kl := .i64) (lo' := (k : Int)) (lo := k) rfl (by omega) (by omega)
            obtain ⟨m10, hm10⟩ : ∃ m, m = k - k := ⟨_, rfl⟩
            obtain ⟨c10, hc10⟩ : ∃ m, m = c - k := ⟨_, rfl⟩
            rw [← hm10, ← hc10] at hcut10
            replace hm10 := Lib.hid hm10
            clear hc10
            have hrd7 := (HG5.out.2.ext hBwx).take (k * 2)
            have hszx := hBx.size
            go_upto_region 8 with (first
              | (at_builtin; refine wpList_append_rd _ rfl (.const (.slice none 0 0)) (.tmp 47) _ rfl w1.heap.size _ _ 2 48 hTP _ _ _ rfl (World.ownsRow_nil _ _ _ _) A k c (xs.take (k * 2)) rfl (by rw [List.length_take, HG5.out.1]; omega) hrd7 (fun u hu => pair_cells HXS.out u (List.mem_of_mem_take hu)) (by unfold maxLen; omega) (by omega) hszx ?_; intro v7 w7 ho7 hg7 hat7)
              | fail)
            rw [Nat.zero_add, List.nil_append] at ho7
            have hB7 := below_own hBx (World.ownsRow_nil _ w1.heap.size 51 2) (Nat.le_refl _) hg7 hszx
            have hBw7 := below_step hb1 hB7
            have y0 := HY0.out _ hB7
            clear hg7 hat7 hrd7
            have hset := Lib.hid (show setP P o.key o.left = P.take k ++ P.drop (k) from by unfold Rec.left; rw [HDD.out]; exact hset0.out none)
            have hsz := hB7.size
            have hrd10 := hcutR _ _ HG5.out.1 (HG5.out.2.ext (below_step hb1 hB7))
            go_wp2_with (first
              | (at_builtin; refine wpList_append_rd _ rfl (.tmp 62) (.tmp 65) _ rfl w1.heap.size _ _ 2 48 hTP _ _ _ rfl ho7 A10 m10 c10 (xs.drop (k * 2)) rfl (by rw [List.length_drop, HG5.out.1, hm10.out, Nat.sub_mul]) hrd10 (fun u hu => pair_cells HXS.out u (List.mem_of_mem_drop hu)) (by have := hm10.out; unfold maxLen; omega) (by have := hm10.out; omega) hsz ?_; intro v10 w10 ho10 hg10 hat10)
              | fail)
            have hB10 := below_own hB7 ho7 (Nat.le_refl _) hg10 hsz
            have hBw10 := below_step hb1 hB10
            go_ret
            have hrow := ((HXS.out.ext rPair_stays hBw10).take (m := k) (by have := HPL.out; omega)).append ((HXS.out.ext rPair_stays hBw10).drop (m := k) (by have := HPL.out; omega))
            refine ⟨_, rfl, ?_, hBw10⟩
            rw [hset.out]
            exact rowNew_of ho10 (Nat.le_of_lt_succ (Nat.lt_succ_of_le hb1.size)) hrow fun u hu => by
              simp only [List.mem_append] at hu
              rcases hu with h | h
              · exact .inl (List.mem_of_mem_take h)
              · exact .inl (List.mem_of_mem_drop h)
end Go.Mun
