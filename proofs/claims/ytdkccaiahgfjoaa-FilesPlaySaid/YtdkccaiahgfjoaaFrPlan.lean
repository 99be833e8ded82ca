/- The reference: Plan. -/
import Derived.Test.YtdkccaiahgfjoaaFrRead
import Derived.Test.YtdkccaiahgfjoaaPhase
namespace Go.Mun
open Go Go.RowKit Go.Proofs Go.Maps

/-- what each operation of the region writes -/
def SPr (p b3 q : Nat) (op cut : Int) (kv : Value) (keep : List Bool) : Nat → Value → World → Prop
  | 0, v, _ => v = .pointer (some ⟨p, 0, none⟩)
  | 1, v, _ => v = .pointer (some ⟨b3, 0, none⟩)
  | 2, v, _ => v = .int .i64 op
  | 3, v, _ => v = .pointer (some ⟨b3, 1, none⟩)
  | 4, v, _ => v = .int .i64 cut
  | 5, v, _ => v = .pointer (some ⟨b3, 2, none⟩)
  | 6, v, _ => v = kv
  | 7, v, w => w.ownsRow q 4 1 v keep.length (keep.map .bool)
  | 8, v, w => ∃ v8, v = .agg #[.int .i64 op, .int .i64 cut, v8] ∧ w.ownsRow q 4 1 v8 keep.length (keep.map .bool)
  | 9, v, _ => v = .pointer (some ⟨p, 0, none⟩)
  | 10, v, _ => v = .pointer (some ⟨p, 4, none⟩)
  | _, _, _ => True
theorem SPr_stays (p b3 q : Nat) (op cut : Int) (kv : Value) (keep : List Bool) (hpq : p < q) : ∀ i v (wa wb : World), wa.grownBy wb (some p) → SPr p b3 q op cut kv keep i v wa → SPr p b3 q op cut kv keep i v wb
  | 0, _, _, _, _, h => h
  | 1, _, _, _, _, h => h
  | 2, _, _, _, _, h => h
  | 3, _, _, _, _, h => h
  | 4, _, _, _, _, h => h
  | 5, _, _, _, _, h => h
  | 6, _, _, _, _, h => h
  | 7, _, _, _, hb, h => own_kept h hb hpq
  | 8, _, _, _, hb, ⟨v8, e, h⟩ => ⟨v8, e, own_kept h hb hpq⟩
  | 9, _, _, _, _, h => h
  | 10, _, _, _, _, h => h
  | _ + 11, _, _, _, _, h => h
/-- the head, before it is written and behind that -/
structure JPr (p q : Nat) (op cut : Int) (keep : List Bool) (hd : Int → Int → Value → Array Value) (c0 c1 : Int) (vk : Value) (L : Nat → Bool) (_V : Nat → Value) (w : World) : Prop where
  head0 : L 11 = false → Blk w p 37 (hd c0 c1 vk)
  head1 : L 11 = true → ∃ v8, Blk w p 37 (hd op cut v8) ∧ w.ownsRow q 4 1 v8 keep.length (keep.map .bool)
  low : q ≤ w.heap.size
section
variable {p q : Nat} {op cut c0 c1 : Int} {keep : List Bool} {hd : Int → Int → Value → Array Value} {vk : Value} {L : Nat → Bool} {V : Nat → Value} {w w' : World}
theorem JPr.far (h : JPr p q op cut keep hd c0 c1 vk L V w) {k : Nat} {v : Value} (h11 : (11 : Nat) ≠ k) : JPr p q op cut keep hd c0 c1 vk (updL L k) (upd V k v) w :=
  ⟨fun e => h.head0 (by rwa [updL_ne h11] at e), fun e => h.head1 (by rwa [updL_ne h11] at e), h.low⟩
theorem JPr.ext (h : JPr p q op cut keep hd c0 c1 vk L V w) (h11 : L 11 = false) (hb : Below w.heap.size w w') {v : Value} : JPr p q op cut keep hd c0 c1 vk (updL L 7) (upd V 7 v) w' :=
  ⟨fun _ => (h.head0 h11).ext hb, fun e => (by rw [updL_ne (by decide), h11] at e; cases e), Nat.le_trans h.low hb.size⟩
theorem JPr.store (h : JPr p q op cut keep hd c0 c1 vk L V w) {v u : Value} (hx : Blk w' p 37 (hd op cut u)) (hg : w.grownBy w' (some p)) (ho : w'.ownsRow q 4 1 u keep.length (keep.map .bool)) : JPr p q op cut keep hd c0 c1 vk (updL L 11) (upd V 11 v) w' :=
  ⟨fun e => (by rw [updL_same] at e; cases e), fun _ => ⟨u, hx, ho⟩, Nat.le_trans h.low hg.size⟩
end
section
variable {k p : Nat} {M : FSs} {φ : Nat → Nat} {o : Own} {K L : Nat} {w : World}
set_option maxRecDepth 100000 in
set_option maxHeartbeats 2000000 in
theorem PlanR_any (h : RelR k p M φ o K L w) (op cut : Int) (kv : Value) (keep : List Bool) (hop : -9223372036854775808 ≤ op ∧ op ≤ 9223372036854775807) (hcut : -9223372036854775808 ≤ cut ∧ cut ≤ 9223372036854775807) (hk : Bools w kv keep) (hko : Free o k kv) (hl : keep.length ≤ 140737488355328) :
    Calls Try.prog 43 #[.pointer (some ⟨p, 0, none⟩), .agg #[.int .i64 op, .int .i64 cut, kv]] w fun e w' => e = .returned (.tuple #[]) ∧ ∃ o', RelR k p (planM M op cut keep) φ o' K L w' ∧ Turn k o o' w w' := by
  obtain ⟨vn, vs, vw, vk, pl, c0, c1, lf, hh⟩ := h.head
  have hx := hh.blk
  have H := Lib.hid hh
  have HR := Lib.hid h
  have HK := Lib.hid hk
  have HKL := Lib.hid hl
  have HKO0 := Lib.hid hko
  have hpl := h.own.lt hh.op
  obtain ⟨A, n, c, e1⟩ : ∃ A n c, kv = .slice A n c := by obtain ⟨A, n, c, e, _⟩ := hk; exact ⟨A, n, c, e⟩
  clear hh h hk hl hko
  subst e1
  have HKO := Lib.hid (show ∀ ad, A = some ad → 0 < n → some ad.block ≠ some p from fun ad e hn e2 => by injection e2 with e2; exact HKO0.out ad n c (by rw [e]) hn .fs (by rw [e2]; exact H.out.op))
  go_enter Try.func43, Try.ntmps43
  go_upto_region 3 with (first
    | ((with_reducible refine gd_box ?_); refine wpList_box_agg rfl _ (.tmp 1) rfl rfl ?_; intro w3 hx3 hb3 hl3; have hp3 := hx.ext hb3; have y0 := hx3.cellv (i := 0) rfl)
    | ((with_reducible refine gd_store ?_); refine wpList_store_cell rfl 4 (.tmp 9) (.tmp 7) rfl (i := 3) (v := .bool (decide (0 ≤ op))) hp3 (show 3 < 10 by decide) (by kernel_rfl) rfl rfl rfl ?_; intro w4 hp4 hg4; have hx4 := hx3.grown hg4 (by simp; omega); have y0 := hx4.cellv (i := 0) rfl)
    | ((with_reducible refine gd_store ?_); refine wpList_store_cell rfl 3 (.tmp 14) (.tmp 12) rfl (i := 7) (v := .int .i64 op) hp4 (show 7 < 10 by decide) (by kernel_rfl) rfl rfl rfl ?_; intro w5 hp5 hg5)
    | fail)
  have hx5 := hx4.grown hg5 (by simp; omega)
  have hg35 := hg4.trans hg5
  have hs3 := hb3.size
  have hs5 := hg35.size
  have HPB := Lib.hid (show p ≠ w.heap.size by omega)
  obtain ⟨q, hq⟩ : ∃ q, q = w5.heap.size := ⟨_, rfl⟩
  have HPQ := Lib.hid (show p < q by omega)
  have HY0 := Lib.hid (fun (w' : World) (hb : w5.drew.grownBy w' (some p)) => ((show Blk w5.drew _ _ _ from hx5).grown hb (fun e => by injection e with e; exact HPB.out e.symm)).cellv (i := 0) rfl)
  have HY1 := Lib.hid (fun (w' : World) (hb : w5.drew.grownBy w' (some p)) => ((show Blk w5.drew _ _ _ from hx5).grown hb (fun e => by injection e with e; exact HPB.out e.symm)).cellv (i := 1) rfl)
  have HY2 := Lib.hid (fun (w' : World) (hb : w5.drew.grownBy w' (some p)) => ((show Blk w5.drew _ _ _ from hx5).grown hb (fun e => by injection e with e; exact HPB.out e.symm)).cellv (i := 2) rfl)
  have HKV := Lib.hid (fun (w' : World) (hb : w5.drew.grownBy w' (some p)) => (show Bools w5.drew _ _ from (show Bools w5 _ _ from (HK.out.ext hb3).grown hg35 HKO.out)).grown hb HKO.out)
  have hq0 : q ≤ w5.drew.heap.size := by rw [hq]; exact Nat.le_refl _
  have hp5' : Blk w5.drew p 37 ((fun x y v => #[vn, vs, vw, .bool (decide (0 ≤ op)), .int .i64 x, .int .i64 y, v, .int .i64 op, .bool M.dead, .int .i64 M.ops]) c0 c1 vk) := hp5
  have HQ := Lib.hid hq
  have HG05 := Lib.hid (grown_via hb3 hg35)
  clear hq hx hx3 hp3 hx4 hp4 hx5 hp5 y0 hg4 hg5 hg35
  refine wp_region_phase (by kernel_rfl) (by kernel_rfl) (by kernel_rfl) (fun w w' => w.grownBy w' (some p)) (fun _ => World.grownBy.refl _ _) (fun _ _ _ h k => h.trans k) (SPr p w.heap.size q op cut (.slice A n c) keep) (SPr_stays p w.heap.size q op cut (.slice A n c) keep HPQ.out) (JPr p q op cut keep (fun x y v => #[vn, vs, vw, .bool (decide (0 ≤ op)), .int .i64 x, .int .i64 y, v, .int .i64 op, .bool M.dead, .int .i64 M.ops]) c0 c1 vk) ⟨fun _ => hp5', fun e => (by cases e), hq0⟩ ?_ ?_
  · simp only [PhStep]
    refine ⟨?_, ?_, ?_, ?_, ?_, ?_, ?_, ?_, ?_, ?_, ?_, ?_, trivial⟩
    · intro L V w' hb hj hl hdo hcl hd
      clear hdo hcl
      clear hd
      refine ⟨?_⟩
      simp only [fill]
      go_wp2
      exact ⟨⟨rfl, rfl, World.grownBy.refl _ _, rfl⟩, hj.far (by decide)⟩
    · intro L V w' hb hj hl hdo hcl hd
      clear hdo hcl
      clear hd
      refine ⟨?_⟩
      simp only [fill]
      go_wp2
      exact ⟨⟨rfl, rfl, World.grownBy.refl _ _, rfl⟩, hj.far (by decide)⟩
    · intro L V w' hb hj hl hdo hcl hd
      have y := HY0.out _ hb
      clear hdo hcl
      simp only [DepFacts, SPr, Region.binds, forall_const, and_true] at hd
      refine ⟨?_⟩
      simp only [fill, hd]
      clear hd
      go_wp2
      exact ⟨⟨rfl, rfl, World.grownBy.refl _ _, rfl⟩, hj.far (by decide)⟩
    · intro L V w' hb hj hl hdo hcl hd
      clear hdo hcl
      clear hd
      refine ⟨?_⟩
      simp only [fill]
      go_wp2
      exact ⟨⟨rfl, rfl, World.grownBy.refl _ _, rfl⟩, hj.far (by decide)⟩
    · intro L V w' hb hj hl hdo hcl hd
      have y := HY1.out _ hb
      clear hdo hcl
      simp only [DepFacts, SPr, Region.binds, forall_const, and_true] at hd
      refine ⟨?_⟩
      simp only [fill, hd]
      clear hd
      go_wp2
      exact ⟨⟨rfl, rfl, World.grownBy.refl _ _, rfl⟩, hj.far (by decide)⟩
    · intro L V w' hb hj hl hdo hcl hd
      clear hdo hcl
      clear hd
      refine ⟨?_⟩
      simp only [fill]
      go_wp2
      exact ⟨⟨rfl, rfl, World.grownBy.refl _ _, rfl⟩, hj.far (by decide)⟩
    · intro L V w' hb hj hl hdo hcl hd
      have y := HY2.out _ hb
      clear hdo hcl
      simp only [DepFacts, SPr, Region.binds, forall_const, and_true] at hd
      refine ⟨?_⟩
      simp only [fill, hd]
      clear hd
      go_wp2
      exact ⟨⟨rfl, rfl, World.grownBy.refl _ _, rfl⟩, hj.far (by decide)⟩
    · intro L V w' hb hj hl hdo hcl hd
      have hby := HKV.out _ hb
      have hq7 := hj.low
      have h11 : L 11 = false := Bool.eq_false_iff.2 fun e => by have := hcl 8 7 (by kernel_rfl) (hcl 11 8 (by kernel_rfl) e); rw [this] at hl; cases hl
      clear hdo hcl
      simp only [DepFacts, SPr, Region.binds, forall_const, and_true] at hd
      refine ⟨?_⟩
      simp only [fill, hd]
      clear hd
      simp only [Act.put, List.setIfInBounds_toArray, List.set_cons_zero, List.set_cons_succ]
      obtain ⟨_, _, _, e0, g1, g2, g3, g4⟩ := hby
      injection e0 with e1 e2 e3
      subst e1 e2 e3
      go_wp2_with (first | (at_builtin; refine wpList_append_rd _ rfl (.const (.slice none 0 0)) (.tmp 21) _ rfl w'.heap.size _ _ 1 1 boolsTy (.slice none 0 0) 0 [] rfl (World.ownsRow_nil _ _ _ _) A n c (keep.map .bool) rfl (by rw [List.length_map]; omega) g4 bools_one (by unfold maxLen; have := HKL.out; omega) (by have := HKL.out; omega) (Nat.le_refl _) ?_; intro v2 w2 ho2 hg2 hat2; rw [List.nil_append, Nat.zero_add] at ho2) | fail)
      have hb2 : Below w'.heap.size w' w2 := ⟨hg2.os, hg2.tape, hg2.output, hg2.size, fun k hk => hg2.block k hk (fun e => by cases e)⟩
      rw [← g1] at ho2
      exact ⟨⟨rfl, rfl, ⟨hb2.os, hb2.tape, hb2.output, hb2.size, fun k hk _ => hb2.block k hk⟩, own_base ho2 hq7⟩, hj.ext h11 hb2⟩
    · intro L V w' hb hj hl hdo hcl hd
      clear hdo hcl
      simp only [DepFacts, SPr, Region.binds, forall_const, and_true] at hd
      obtain ⟨d2, d4, d7⟩ := hd
      obtain ⟨A7, c7, e7⟩ := row_slC d7
      rw [e7] at d7
      refine ⟨?_⟩
      simp only [fill, d2, d4, e7]
      clear d2 d4 e7
      go_wp2
      exact ⟨⟨rfl, rfl, World.grownBy.refl _ _, _, rfl, d7⟩, hj.far (by decide)⟩
    · intro L V w' hb hj hl hdo hcl hd
      clear hcl
      have d0 : V 0 = .pointer (some ⟨p, 0, none⟩) := by
        simp only [DepFacts, SPr, Region.binds, forall_const, and_true] at hd
        first | exact hd.1 | exact hd
      clear hdo hd
      refine ⟨?_⟩
      simp only [fill, d0]
      clear d0
      go_wp2
      exact ⟨⟨rfl, rfl, World.grownBy.refl _ _, rfl⟩, hj.far (by decide)⟩
    · intro L V w' hb hj hl hdo hcl hd
      clear hcl
      have d0 : V 9 = .pointer (some ⟨p, 0, none⟩) := by
        simp only [DepFacts, SPr, Region.binds, forall_const, and_true] at hd
        first | exact hd.1 | exact hd
      clear hdo hd
      refine ⟨?_⟩
      simp only [fill, d0]
      clear d0
      go_wp2
      exact ⟨⟨rfl, rfl, World.grownBy.refl _ _, rfl⟩, hj.far (by decide)⟩
    · intro L V w' hb hj hl hdo hcl hd
      have hx := hj.head0 hl
      clear hdo hcl
      have d10 : V 10 = .pointer (some ⟨p, 4, none⟩) := by
        simp only [DepFacts, SPr, Region.binds, forall_const, and_true] at hd
        exact hd.1
      obtain ⟨v8, d8, d7⟩ : SPr p w.heap.size q op cut (.slice A n c) keep 8 (V 8) w' := by
        simp only [DepFacts, Region.binds, forall_const, and_true] at hd
        exact hd.2.1
      obtain ⟨A8, c8, rfl⟩ := row_slC d7
      clear hd
      refine ⟨?_⟩
      simp only [fill, d8, d10]
      clear d8 d10
      simp only [Act.put, List.setIfInBounds_toArray, List.set_cons_zero, List.set_cons_succ]
      go_wp2_with (first | ((with_reducible refine gd_store ?_); refine wpList_store_part rfl 35 (.tmp 25) (.tmp 23) rfl (o := 4) (cells := #[.int .i64 op, .int .i64 cut, .slice A8 keep.length c8]) hx (show 4 + 3 ≤ 10 by decide) rfl rfl (by kernel_rfl) rfl ?_; intro w2 hx2 hg2) | fail)
      exact ⟨⟨rfl, rfl, hg2, trivial⟩, hj.store hx2 hg2 (own_kept d7 hg2 HPQ.out)⟩
  · intro Lx V w9 hL hb9 hs hj
    obtain ⟨v8, hx9, ho9⟩ := hj.head1 (hL 11 (by decide))
    clear hs hj hL
    simp only [fill]
    try simp only [Exit.then]
    try go_simp
    go_end0
    have hg59 : w5.grownBy w9 (some p) := ⟨hb9.os, hb9.tape, hb9.output, hb9.size, hb9.block⟩
    have hg09 := HG05.out.trans hg59
    have hqs : w.heap.size ≤ q := by rw [HQ.out]; exact HG05.out.size
    have T := Turn.wrote HR.out.own hg09 H.out.op
    obtain ⟨o', q1, q2, q3, q4⟩ : ∃ o' : Own, (∀ b, b < w.heap.size → o' b = o b) ∧ OwnIn o' w9 ∧ (∀ g, v8.ownBlock = some g → o' g = some (k, .keep)) ∧ Turn k o o' w w9 := by
      cases hv : v8.ownBlock with
      | none => exact ⟨o, fun _ _ => rfl, HR.out.own.more hg09.size, fun g hg => (by cases hg), T⟩
      | some g =>
        have hlt := ho9.lt g hv
        refine ⟨give o g (k, .keep), fun b hb => give_ne (by omega), (HR.out.own.more hg09.size).give hlt.2 _, fun g' hg => ?_, T.give (by omega) _⟩
        injection hg with hg
        subst hg
        exact give_same _ _ _
    have ne : ∀ {b t}, o b = some (k, t) → t ≠ .fs → w9.heap[b]? = w.heap[b]? := fun e ht => same_of hg09 (HR.out.own.lt e) e (one_some H.out.op) ht
    have ex : ∀ {b x}, o b = some x → o' b = some x := fun e => by rw [q1 _ (HR.out.own.lt e)]; exact e
    refine ⟨rfl, o', ⟨HR.out.fine.plan op cut keep, q2, ⟨vn, vs, vw, v8, _, _, _, _, ⟨hx9, ex H.out.op, own_same H.out.now fun g hg => ne (H.out.on g hg) (by simp), fun g hg => ex (H.out.on g hg), own_same H.out.syn fun g hg => ne (H.out.os g hg) (by simp), fun g hg => ex (H.out.os g hg), own_same H.out.waits fun g hg => ne (H.out.ow g hg) (by simp), fun g hg => ex (H.out.ow g hg), ?_, fun h0 => ?_⟩⟩, fun i hi => ⟨(HR.out.file i hi).1.mono (fun e ht => ne e (by rcases ht with rfl | rfl <;> simp)) ex, (HR.out.file i hi).2⟩, HR.out.ops, hcut, by show max (-1) op ≤ _; omega, HR.out.size⟩, q4⟩
    · show decide (0 ≤ op) = decide (0 ≤ max (-1) op)
      rw [Bool.eq_iff_iff, decide_eq_true_iff, decide_eq_true_iff]
      omega
    · have h1 : 0 ≤ max (-1) op := h0
      exact ⟨by show op = max (-1) op; omega, rfl, own_base ho9 (Nat.zero_le _), q3⟩
end
end Go.Mun
