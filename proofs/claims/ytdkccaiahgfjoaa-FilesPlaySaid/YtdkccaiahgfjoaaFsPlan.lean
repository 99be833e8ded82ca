/- Plan: when the power fails. -/
import Derived.Test.YtdkccaiahgfjoaaFsNames
import Derived.Test.YtdkccaiahgfjoaaPhase
namespace Go.Mun
open Go Go.RowKit Go.Proofs Go.Maps

/-- what each operation of the region writes -/
def SPl (p b3 q : Nat) (op cut : Int) (kv : Value) (keep : List Bool) : Nat → Value → World → Prop
  | 0, v, _ => v = .pointer (some ⟨p, 0, none⟩)
  | 1, v, _ => v = .pointer (some ⟨b3, 0, none⟩)
  | 2, v, _ => v = .int .i64 op
  | 3, v, _ => v = .int .i64 (max (-1) op)
  | 4, v, _ => v = .pointer (some ⟨b3, 1, none⟩)
  | 5, v, _ => v = .int .i64 cut
  | 6, v, _ => v = .pointer (some ⟨b3, 2, none⟩)
  | 7, v, _ => v = kv
  | 8, v, w => w.ownsRow q 4 1 v keep.length (keep.map .bool)
  | 9, v, w => ∃ v8, v = .agg #[.int .i64 (max (-1) op), .int .i64 cut, v8] ∧ w.ownsRow q 4 1 v8 keep.length (keep.map .bool)
  | 10, v, _ => v = .pointer (some ⟨p, 0, none⟩)
  | 11, v, _ => v = .pointer (some ⟨p, 3, none⟩)
  | _, _, _ => True
theorem SPl_stays (p b3 q : Nat) (op cut : Int) (kv : Value) (keep : List Bool) (hpq : p < q) : ∀ i v (wa wb : World), wa.grownBy wb (some p) → SPl p b3 q op cut kv keep i v wa → SPl p b3 q op cut kv keep i v wb
  | 0, _, _, _, _, h => h
  | 1, _, _, _, _, h => h
  | 2, _, _, _, _, h => h
  | 3, _, _, _, _, h => h
  | 4, _, _, _, _, h => h
  | 5, _, _, _, _, h => h
  | 6, _, _, _, _, h => h
  | 7, _, _, _, _, h => h
  | 8, _, _, _, hb, h => own_kept h hb hpq
  | 9, _, _, _, hb, ⟨v8, e, h⟩ => ⟨v8, e, own_kept h hb hpq⟩
  | 10, _, _, _, _, h => h
  | 11, _, _, _, _, h => h
  | _ + 12, _, _, _, _, h => h
/-- the head, before it is written and behind that -/
def JPl (p q : Nat) (op cut : Int) (keep : List Bool) (bn bs : Nat) (vw : Value) (op0 cut0 : Int) (vk0 : Value) (dead : Bool) (ops : Int) (L : Nat → Bool) (_V : Nat → Value) (w : World) : Prop :=
  (L 12 = false → Blk w p 59 #[.map (some bn), .map (some bs), vw, .int .i64 op0, .int .i64 cut0, vk0, .bool dead, .int .i64 ops]) ∧ (L 12 = true → ∃ v8, Blk w p 59 #[.map (some bn), .map (some bs), vw, .int .i64 (max (-1) op), .int .i64 cut, v8, .bool dead, .int .i64 ops] ∧ w.ownsRow q 4 1 v8 keep.length (keep.map .bool)) ∧ q ≤ w.heap.size
theorem JPl_new (p q : Nat) (op cut : Int) (keep : List Bool) (bn bs : Nat) (vw : Value) (op0 cut0 : Int) (vk0 : Value) (dead : Bool) (ops : Int) {L : Nat → Bool} {V : Nat → Value} {w : World} {i : Nat} {v : Value} (h12 : L 12 = false) (hi : (12 : Nat) ≠ i) (hx : Blk w p 59 #[.map (some bn), .map (some bs), vw, .int .i64 op0, .int .i64 cut0, vk0, .bool dead, .int .i64 ops]) (hq : q ≤ w.heap.size) : JPl p q op cut keep bn bs vw op0 cut0 vk0 dead ops (updL L i) (upd V i v) w := by
  unfold JPl
  rw [updL_ne hi, h12]
  exact ⟨fun _ => hx, fun e => (by cases e), hq⟩
theorem JPl_last (p q : Nat) (op cut : Int) (keep : List Bool) (bn bs : Nat) (vw : Value) (op0 cut0 : Int) (vk0 : Value) (dead : Bool) (ops : Int) {L : Nat → Bool} {V : Nat → Value} {w : World} {v : Value} (hx : ∃ v8, Blk w p 59 #[.map (some bn), .map (some bs), vw, .int .i64 (max (-1) op), .int .i64 cut, v8, .bool dead, .int .i64 ops] ∧ w.ownsRow q 4 1 v8 keep.length (keep.map .bool)) (hq : q ≤ w.heap.size) : JPl p q op cut keep bn bs vw op0 cut0 vk0 dead ops (updL L 12) (upd V 12 v) w := by
  unfold JPl
  rw [updL_same]
  exact ⟨fun e => (by cases e), fun _ => hx, hq⟩
theorem JPl_far (p q : Nat) (op cut : Int) (keep : List Bool) (bn bs : Nat) (vw : Value) (op0 cut0 : Int) (vk0 : Value) (dead : Bool) (ops : Int) {L : Nat → Bool} {V : Nat → Value} {w : World} (hJ : JPl p q op cut keep bn bs vw op0 cut0 vk0 dead ops L V w) {k : Nat} {v : Value} (h12 : (12 : Nat) ≠ k) : JPl p q op cut keep bn bs vw op0 cut0 vk0 dead ops (updL L k) (upd V k v) w := by
  unfold JPl at hJ ⊢
  simp only [updL_ne h12]
  exact hJ

theorem Bools.ext {w w' : World} {v : Value} {l : List Bool} (h : Bools w v l) (hb : Below w.heap.size w w') : Bools w' v l := by
  obtain ⟨A, n, c, e, h1, h2, h3, h4⟩ := h
  exact ⟨A, n, c, e, h1, h2, h3, h4.ext hb⟩
theorem Bools.grown {w w' : World} {A : Option Addr} {n c : Nat} {l : List Bool} {row : Option Nat} (h : Bools w (.slice A n c) l) (hg : w.grownBy w' row) (hne : ∀ ad, A = some ad → 0 < n → some ad.block ≠ row) : Bools w' (.slice A n c) l := by
  obtain ⟨A', n', c', e, h1, h2, h3, h4⟩ := h
  injection e with e1 e2 e3
  subst e1 e2 e3
  refine ⟨_, _, _, rfl, h1, h2, h3, ?_⟩
  by_cases hn : 0 < n
  · exact h4.grown hg fun ad e => hne ad e hn
  · have e0 : l = [] := List.eq_nil_of_length_eq_zero (by omega)
    subst e0
    exact Rd.nil _ _
/-- the head's own block was written; a row of its own is new -/
theorem RelP.head_new {k p : Nat} {M M' : FSs} {φ : Nat → Nat} {o o' : Own} {K L : Nat} {w w' : World} (h : RelP k p M φ o K L w) {bn bs : Nat} {vw vk vk' : Value} (hh : Head k p M φ o K w bn bs vw vk) (hg : w.grownBy w' (some p))
    (hx : Blk w' p 59 #[.map (some bn), .map (some bs), vw, .int .i64 M'.op, .int .i64 M'.cut, vk', .bool M'.dead, .int .i64 M'.ops])
    (hn : M'.now = M.now) (hs : M'.syn = M.syn) (hw : M'.waits = M.waits) (hf : M'.fs = M.fs) (hfine : Fine M') (hk : w'.ownsRow 0 4 1 vk' M'.keep.length (M'.keep.map .bool)) (h1 : ∀ b, b < w.heap.size → o' b = o b) (h2 : OwnIn o' w') (hko : ∀ g, vk'.ownBlock = some g → o' g = some (k, .keep))
    (hops : 0 ≤ M'.ops ∧ M'.ops ≤ K) (hcut : -9223372036854775808 ≤ M'.cut ∧ M'.cut ≤ 9223372036854775807) (hop : M'.op ≤ 9223372036854775807) : RelP k p M' φ o' K L w' := by
  have ne : ∀ {b t}, o b = some (k, t) → t ≠ .fs → w'.heap[b]? = w.heap[b]? := fun e ht => same_of hg (h.own.lt e) e (one_some hh.op) ht
  have ex : ∀ {b x}, o b = some x → o' b = some x := fun e => by rw [h1 _ (h.own.lt e)]; exact e
  refine ⟨hfine, h2, ⟨bn, bs, vw, vk', ⟨hx, ex hh.op, ex hh.on, ex hh.os, ?_, ?_, ?_, fun g hg => ex (hh.ow g hg), hk, hko⟩⟩, fun i hi => ?_, hops, hcut, hop, by rw [hw]; exact h.wl⟩
  · obtain ⟨N, h1, h2⟩ := hh.now
    exact ⟨N, by rw [hn]; exact h1.same (ne hh.on (by simp)), h2⟩
  · obtain ⟨N, h1, h2⟩ := hh.syn
    exact ⟨N, by rw [hs]; exact h1.same (ne hh.os (by simp)), by rw [hw]; exact h2⟩
  · rw [hw]
    exact own_same hh.waits fun g hg => ne (hh.ow g hg) (by simp)
  · have hi' : Live M i := by unfold Live at hi ⊢; rw [hn, hs, hw] at hi; exact hi
    rw [hf]
    obtain ⟨⟨v, f1, f2, f3, f4⟩, f5⟩ := h.file i hi'
    exact ⟨⟨v, f1.same (ne f2 (by simp)), ex f2, own_same f3 fun g hg => ne (f4 g hg) (by simp), fun g hg => ex (f4 g hg)⟩, f5⟩
section
variable {k p : Nat} {M : FSs} {φ : Nat → Nat} {o : Own} {K L : Nat} {w : World}
set_option maxRecDepth 100000 in
set_option maxHeartbeats 2000000 in
theorem Plan_any (h : RelP k p M φ o K L w) (op cut : Int) (kv : Value) (keep : List Bool) (hop : -9223372036854775808 ≤ op ∧ op ≤ 9223372036854775807) (hcut : -9223372036854775808 ≤ cut ∧ cut ≤ 9223372036854775807) (hk : Bools w kv keep) (hko : ∀ ad n c, kv = .slice (some ad) n c → 0 < n → ∀ t, o ad.block ≠ some (k, t)) (hl : keep.length ≤ 140737488355328) :
    Calls Try.prog 19 #[.pointer (some ⟨p, 0, none⟩), .agg #[.int .i64 op, .int .i64 cut, kv]] w fun e w' => e = .returned (.tuple #[]) ∧ ∃ o', RelP k p (planM M op cut keep) φ o' K L w' ∧ Turn k o o' w w' := by
  obtain ⟨bn, bs, vw, vk, hh⟩ := h.head
  have hx := hh.blk
  have H := Lib.hid hh
  have HR := Lib.hid h
  have HK := Lib.hid hk
  have HKL := Lib.hid hl
  have HKO0 := Lib.hid hko
  have hpl := h.own.lt hh.op
  obtain ⟨A, n, c, e1⟩ : ∃ A n c, kv = .slice A n c := by obtain ⟨A, n, c, e, _⟩ := hk; exact ⟨A, n, c, e⟩
  clear hh h hk hl hko
  subst e1
  have HKO := Lib.hid (show ∀ ad, A = some ad → 0 < n → some ad.block ≠ some p from fun ad e hn e2 => by injection e2 with e2; exact HKO0.out ad n c (by rw [e]) hn .fs (by rw [e2]; exact H.out.op))
  obtain ⟨o1, o2⟩ := hop
  go_enter Try.func19, Try.ntmps19
  go_wp2_with (first
    | ((with_reducible refine gd_box ?_); refine wpList_box_agg rfl _ (.tmp 1) rfl rfl ?_; intro w3 hx3 hb3 hl3)
    | fail)
  have hp3 := hx.ext hb3
  have HPB := Lib.hid (show p ≠ w.heap.size by omega)
  have HPQ := Lib.hid (show p < w3.heap.size by omega)
  have HY0 := Lib.hid (fun (w' : World) (hb : w3.drew.grownBy w' (some p)) => ((show Blk w3.drew _ _ _ from hx3).grown hb (fun e => by injection e with e; exact HPB.out e.symm)).cellv (i := 0) rfl)
  have HY1 := Lib.hid (fun (w' : World) (hb : w3.drew.grownBy w' (some p)) => ((show Blk w3.drew _ _ _ from hx3).grown hb (fun e => by injection e with e; exact HPB.out e.symm)).cellv (i := 1) rfl)
  have HY2 := Lib.hid (fun (w' : World) (hb : w3.drew.grownBy w' (some p)) => ((show Blk w3.drew _ _ _ from hx3).grown hb (fun e => by injection e with e; exact HPB.out e.symm)).cellv (i := 2) rfl)
  have HKV := Lib.hid (fun (w' : World) (hb : w3.drew.grownBy w' (some p)) => (show Bools w3.drew _ _ from (show Bools w3 _ _ from HK.out.ext hb3)).grown hb HKO.out)
  have hq0 : w3.heap.size ≤ w3.drew.heap.size := Nat.le_refl _
  have hp3' : Blk w3.drew p 59 #[.map (some bn), .map (some bs), vw, .int .i64 M.op, .int .i64 M.cut, vk, .bool M.dead, .int .i64 M.ops] := hp3
  have HP3 := Lib.hid hp3'
  clear hp3' hx hx3 hp3
  obtain ⟨q, hqq⟩ : ∃ q, q = w3.heap.size := ⟨_, rfl⟩
  rw [← hqq] at hq0 HPQ
  have HQQ := Lib.hid hqq
  clear hqq
  refine wp_region_phase (by kernel_rfl) (by kernel_rfl) (by kernel_rfl) (fun w w' => w.grownBy w' (some p)) (fun _ => World.grownBy.refl _ _) (fun _ _ _ h k => h.trans k) (SPl p w.heap.size q op cut (.slice A n c) keep) (SPl_stays p w.heap.size q op cut (.slice A n c) keep HPQ.out) (JPl p q op cut keep bn bs vw M.op M.cut vk M.dead M.ops)
    ⟨fun _ => HP3.out, fun e => (by cases e), hq0⟩ ?_ ?_
  · simp only [PhStep]
    refine ⟨?_, ?_, ?_, ?_, ?_, ?_, ?_, ?_, ?_, ?_, ?_, ?_, ?_, trivial⟩
    · intro L V w' hb hj hl hdo hcl hd
      clear hdo hcl
      clear hd
      refine ⟨?_⟩
      simp only [fill]
      go_wp2
      exact ⟨⟨rfl, rfl, World.grownBy.refl _ _, rfl⟩, (JPl_far _ _ _ _ _ _ _ _ _ _ _ _ _ hj (by decide))⟩
    · intro L V w' hb hj hl hdo hcl hd
      clear hdo hcl
      clear hd
      refine ⟨?_⟩
      simp only [fill]
      go_wp2
      exact ⟨⟨rfl, rfl, World.grownBy.refl _ _, rfl⟩, (JPl_far _ _ _ _ _ _ _ _ _ _ _ _ _ hj (by decide))⟩
    · intro L V w' hb hj hl hdo hcl hd
      have y := HY0.out _ hb
      clear hdo hcl
      simp only [DepFacts, SPl, Region.binds, forall_const, and_true] at hd
      refine ⟨?_⟩
      simp only [fill, hd]
      clear hd
      go_wp2
      exact ⟨⟨rfl, rfl, World.grownBy.refl _ _, rfl⟩, (JPl_far _ _ _ _ _ _ _ _ _ _ _ _ _  hj (by decide))⟩
    · intro L V w' hb hj hl hdo hcl hd
      clear hdo hcl
      simp only [DepFacts, SPl, Region.binds, forall_const, and_true] at hd
      refine ⟨?_⟩
      simp only [fill, hd]
      clear hd
      go_wp2
      exact ⟨⟨rfl, rfl, World.grownBy.refl _ _, rfl⟩, (JPl_far _ _ _ _ _ _ _ _ _ _ _ _ _ hj (by decide))⟩
    · intro L V w' hb hj hl hdo hcl hd
      clear hdo hcl
      clear hd
      refine ⟨?_⟩
      simp only [fill]
      go_wp2
      exact ⟨⟨rfl, rfl, World.grownBy.refl _ _, rfl⟩, (JPl_far _ _ _ _ _ _ _ _ _ _ _ _ _ hj (by decide))⟩
    · intro L V w' hb hj hl hdo hcl hd
      have y := HY1.out _ hb
      clear hdo hcl
      simp only [DepFacts, SPl, Region.binds, forall_const, and_true] at hd
      refine ⟨?_⟩
      simp only [fill, hd]
      clear hd
      go_wp2
      exact ⟨⟨rfl, rfl, World.grownBy.refl _ _, rfl⟩, (JPl_far _ _ _ _ _ _ _ _ _ _ _ _ _  hj (by decide))⟩
    · intro L V w' hb hj hl hdo hcl hd
      clear hdo hcl
      clear hd
      refine ⟨?_⟩
      simp only [fill]
      go_wp2
      exact ⟨⟨rfl, rfl, World.grownBy.refl _ _, rfl⟩, (JPl_far _ _ _ _ _ _ _ _ _ _ _ _ _ hj (by decide))⟩
    · intro L V w' hb hj hl hdo hcl hd
      have y := HY2.out _ hb
      clear hdo hcl
      simp only [DepFacts, SPl, Region.binds, forall_const, and_true] at hd
      refine ⟨?_⟩
      simp only [fill, hd]
      clear hd
      go_wp2
      exact ⟨⟨rfl, rfl, World.grownBy.refl _ _, rfl⟩, (JPl_far _ _ _ _ _ _ _ _ _ _ _ _ _  hj (by decide))⟩
    · intro L V w' hb hj hl hdo hcl hd
      have hby := HKV.out _ hb
      have hq8 := hj.2.2
      have h12 : L 12 = false := Bool.eq_false_iff.2 fun e => by have := hcl 12 8 (by kernel_rfl) e; rw [this] at hl; cases hl
      have hx8 := hj.1 h12
      clear hdo hcl
      simp only [DepFacts, SPl, Region.binds, forall_const, and_true] at hd
      refine ⟨?_⟩
      simp only [fill, hd]
      clear hd
      simp only [Act.put, List.setIfInBounds_toArray, List.set_cons_zero, List.set_cons_succ]
      go_wp2_with (first | (go_at_call 37; (with_reducible refine (BoolClone_any _ _ _ hby HKL.out).mono ?_); rintro e w2 ⟨v2, rfl, ho2, hb2⟩) | fail)
      exact ⟨⟨rfl, rfl, ⟨hb2.os, hb2.tape, hb2.output, hb2.size, fun k hk _ => hb2.block k hk⟩, own_base ho2 hq8⟩, JPl_new _ _ _ _ _ _ _ _ _ _ _ _ _  h12 (by decide) (hx8.ext hb2) (Nat.le_trans hq8 hb2.size)⟩
    · intro L V w' hb hj hl hdo hcl hd
      clear hdo hcl
      simp only [DepFacts, SPl, Region.binds, forall_const, and_true] at hd
      obtain ⟨d3, d5, d8⟩ := hd
      obtain ⟨A8, c8, e8⟩ := row_slC d8
      rw [e8] at d8
      refine ⟨?_⟩
      simp only [fill, d3, d5, e8]
      clear d3 d5 e8
      go_wp2
      exact ⟨⟨rfl, rfl, World.grownBy.refl _ _, _, rfl, d8⟩, (JPl_far _ _ _ _ _ _ _ _ _ _ _ _ _  hj (by decide))⟩
    · intro L V w' hb hj hl hdo hcl hd
      clear hcl
      have d0 : V 0 = .pointer (some ⟨p, 0, none⟩) := by
        simp only [DepFacts, SPl, Region.binds, forall_const, and_true] at hd
        first | exact hd.1 | exact hd
      clear hdo hd
      refine ⟨?_⟩
      simp only [fill, d0]
      clear d0
      go_wp2
      exact ⟨⟨rfl, rfl, World.grownBy.refl _ _, rfl⟩, (JPl_far _ _ _ _ _ _ _ _ _ _ _ _ _  hj (by decide))⟩
    · intro L V w' hb hj hl hdo hcl hd
      clear hcl
      have d0 : V 10 = .pointer (some ⟨p, 0, none⟩) := by
        simp only [DepFacts, SPl, Region.binds, forall_const, and_true] at hd
        first | exact hd.1 | exact hd
      clear hdo hd
      refine ⟨?_⟩
      simp only [fill, d0]
      clear d0
      go_wp2
      exact ⟨⟨rfl, rfl, World.grownBy.refl _ _, rfl⟩, (JPl_far _ _ _ _ _ _ _ _ _ _ _ _ _  hj (by decide))⟩
    · intro L V w' hb hj hl hdo hcl hd
      have hx := hj.1 hl
      have hq := hj.2.2
      clear hdo hcl
      have d11 : V 11 = .pointer (some ⟨p, 3, none⟩) := by
        simp only [DepFacts, SPl, Region.binds, forall_const, and_true] at hd
        exact hd.1
      obtain ⟨v8, d9, d8⟩ : SPl p w.heap.size q op cut (.slice A n c) keep 9 (V 9) w' := by
        simp only [DepFacts, Region.binds, forall_const, and_true] at hd
        exact hd.2.1
      obtain ⟨A8, c8, rfl⟩ := row_slC d8
      clear hd
      refine ⟨?_⟩
      simp only [fill, d9, d11]
      clear d9 d11
      simp only [Act.put, List.setIfInBounds_toArray, List.set_cons_zero, List.set_cons_succ]
      go_wp2_with (first | ((with_reducible refine gd_store ?_); refine wpList_store_part rfl 35 (.tmp 15) (.tmp 13) rfl (o := 3) (cells := #[.int .i64 (max (-1) op), .int .i64 cut, .slice A8 keep.length c8]) hx (show 3 + 3 ≤ 8 by decide) rfl rfl (by kernel_rfl) rfl ?_; intro w2 hx2 hg2) | fail)
      exact ⟨⟨rfl, rfl, hg2, trivial⟩, JPl_last _ _ _ _ _ _ _ _ _ _ _ _ _  ⟨_, hx2, own_kept d8 hg2 HPQ.out⟩ (Nat.le_trans hq hg2.size)⟩
  · intro L V w9 hL hb9 hs hj
    obtain ⟨v8, hx9, ho9⟩ := hj.2.1 (hL 12 (by decide))
    clear hs hj hL
    simp only [fill]
    try simp only [Exit.then]
    try go_simp
    go_end0
    have hg39 : w3.grownBy w9 (some p) := ⟨hb9.os, hb9.tape, hb9.output, hb9.size, hb9.block⟩
    have hg09 := grown_via hb3 hg39
    have hpo := H.out.op
    have hqs : w.heap.size ≤ q := by rw [HQQ.out]; omega
    obtain ⟨o', q1, q2, q3, q4⟩ : ∃ o' : Own, (∀ b, b < w.heap.size → o' b = o b) ∧ OwnIn o' w9 ∧ (∀ g, v8.ownBlock = some g → o' g = some (k, .keep)) ∧ Turn k o o' w w9 := by
      have T := Turn.wrote HR.out.own hg09 hpo
      cases hv : v8.ownBlock with
      | none => exact ⟨o, fun _ _ => rfl, HR.out.own.more hg09.size, fun g hg => (by cases hg), T⟩
      | some g =>
        have hlt := ho9.lt g hv
        refine ⟨give o g (k, .keep), fun b hb => give_ne (by omega), (HR.out.own.more hg09.size).give hlt.2 _, fun g' hg => ?_, T.give (by omega) _⟩
        injection hg with hg
        subst hg
        exact give_same _ _ _
    exact ⟨rfl, o', RelP.head_new (M' := planM M op cut keep) HR.out H.out hg09 hx9 rfl rfl rfl rfl (HR.out.fine.plan op cut keep) (own_base ho9 (Nat.zero_le _)) q1 q2 q3 HR.out.ops hcut (by show max (-1) op ≤ _; omega), q4⟩
end
end Go.Mun
