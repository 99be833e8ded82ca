/- The reference: an operation that goes well; Read. -/
import Derived.Test.YtdkccaiahgfjoaaFrRel
namespace Go.Mun
open Go Go.RowKit Go.Proofs Go.Maps

theorem place_at {P : PL Nat} {n : Ky} {k i : Nat} (h : Place P n k) (hg : getP P n = some i) : P[k]? = some (n, i) := by
  obtain ⟨A, B, rfl, rfl, hA, hB⟩ := h
  rw [List.getElem?_append_right (Nat.le_refl _), Nat.sub_self]
  rcases hB with ⟨j, B', rfl, hj, _⟩ | ⟨hn, _⟩
  · rw [hg] at hj
    injection hj with hj
    rw [hj]
    rfl
  · rw [hg] at hn; cases hn
section
variable {k p : Nat} {M : FSs} {φ : Nat → Nat} {o : Own} {K L : Nat} {w : World}
/-- a name that is there, as it lies -/
theorem RelR.found {vn vs vw vk : Value} {pl : Bool} {c0 c1 lf : Int} (h : HeadR k p M φ o w vn vs vw vk pl c0 c1 lf) {n : Ky} {i kx : Nat} (hg : getP M.now n = some i) (hp : Place M.now n kx) : kx < M.now.length ∧ ∃ ad c, vn = .slice (some ad) M.now.length c ∧ w.cell? (ad.add (kx * 2 + 1)) = some (.pointer (some ⟨φ i, 0, none⟩)) := by
  have hx := place_at hp hg
  have hlt := (List.getElem?_eq_some_iff.1 hx).1
  obtain ⟨A, c, e, _, _, hr⟩ := (Ents.own h.now).at_
  obtain ⟨ad, e2, hc⟩ := hr _ _ (erow_at φ hx).2
  subst e2
  exact ⟨hlt, ad, c, e, hc⟩
theorem RelR.found2 {An : Option Addr} {nn cn : Nat} {vs vw vk : Value} {pl : Bool} {c0 c1 lf : Int} (h : HeadR k p M φ o w (.slice An nn cn) vs vw vk pl c0 c1 lf) {n : Ky} {i kx : Nat} (hg : getP M.now n = some i) (hp : Place M.now n kx) : (kx : Int) < (M.now.length : Int) ∧ ∃ ad, An = some ad ∧ w.cell? ⟨(ad.add (kx * 2)).block, (ad.add (kx * 2)).off + 1, none⟩ = some (.pointer (some ⟨φ i, 0, none⟩)) := by
  obtain ⟨h1, ad, c, e, h2⟩ := RelR.found h hg hp
  injection e with e1 e2 e3
  rw [← Addr.add_add] at h2
  exact ⟨by omega, ad, e1, h2⟩
theorem RelR.at_file (h : RelR k p M φ o K L w) {i : Nat} (hl : Live M i) : ∃ A c s0 l0, (M.fs i).s = s0 ∧ (M.fs i).b = l0 ∧ Blk w (φ i) 70 #[.slice A l0.length c, .int .i64 (s0 : Nat)] ∧ o (φ i) = some (k, .file i) ∧ w.ownsRow 0 5 1 (.slice A l0.length c) l0.length (bv l0) ∧ (∀ g, (Value.slice A l0.length c).ownBlock = some g → o g = some (k, .byt i)) ∧ l0.length ≤ L ∧ s0 ≤ l0.length := by
  obtain ⟨⟨v, f1, f2, f3, f4⟩, f5⟩ := h.file i hl
  obtain ⟨A, c, rfl⟩ := row_slC f3
  exact ⟨A, c, _, _, rfl, rfl, f1, f2, f3, f4, f5, h.fine.sized i⟩
/-- only the head's own block was written: plan, what is left, how many operations went well -/
theorem RelR.counts {w' : World} {M' : FSs} {vn vs vw vk : Value} {pl pl' : Bool} {c0 c1 lf c0' c1' lf' : Int} (h : RelR k p M φ o K L w) (hh : HeadR k p M φ o w vn vs vw vk pl c0 c1 lf) (hg : w.grownBy w' (some p))
    (hx : Blk w' p 37 #[vn, vs, vw, .bool pl', .int .i64 c0', .int .i64 c1', vk, .int .i64 lf', .bool M'.dead, .int .i64 M'.ops])
    (hn : M'.now = M.now) (hs : M'.syn = M.syn) (hw : M'.waits = M.waits) (hf : M'.fs = M.fs) (hfine : Fine M') (hpl : pl' = decide (0 ≤ M'.op)) (hleft : 0 ≤ M'.op → 0 ≤ M.op ∧ lf' = M'.op ∧ c1' = c1 ∧ M'.cut = M.cut ∧ M'.keep = M.keep)
    (hops : 0 ≤ M'.ops ∧ M'.ops ≤ K) (hcut : -9223372036854775808 ≤ M'.cut ∧ M'.cut ≤ 9223372036854775807) (hop : M'.op ≤ 9223372036854775807) : RelR k p M' φ o K L w' := by
  have ne : ∀ {b t}, o b = some (k, t) → t ≠ .fs → w'.heap[b]? = w.heap[b]? := fun e ht => same_of hg (h.own.lt e) e (one_some hh.op) ht
  refine ⟨hfine, h.own.more hg.size, ⟨vn, vs, vw, vk, pl', c0', c1', lf', ⟨hx, hh.op, ?_, hh.on, ?_, hh.os, ?_, hh.ow, hpl, fun h0 => ?_⟩⟩, fun i hi => ?_, hops, hcut, hop, by rw [hs, hw]; exact h.size⟩
  · rw [hn]; exact own_same hh.now fun g hg => ne (hh.on g hg) (by simp)
  · rw [hs]; exact own_same hh.syn fun g hg => ne (hh.os g hg) (by simp)
  · rw [hw]; exact own_same hh.waits fun g hg => ne (hh.ow g hg) (by simp)
  · obtain ⟨a0, a1, a2, a3, a4⟩ := hleft h0
    obtain ⟨b1, b2, b3, b4⟩ := hh.left a0
    exact ⟨a1, by rw [a2, b2, a3], by rw [a4]; exact own_same b3 fun g hg => ne (b4 g hg) (by simp), b4⟩
  · have hi' : Live M i := by unfold Live at hi ⊢; rw [hn, hs, hw] at hi; exact hi
    rw [hf]
    exact ⟨(h.file i hi').1.mono (fun e ht => ne e (by rcases ht with rfl | rfl <;> simp)) id, (h.file i hi').2⟩
set_option maxRecDepth 100000 in
set_option maxHeartbeats 1000000 in
theorem op_go (h : RelR k p M φ o K L w) (hop : M.op ≠ 0) (hK : K ≤ 1000000000) :
    Calls Try.prog 33 #[.pointer (some ⟨p, 0, none⟩)] w fun e w' => e = .returned (.bool (!failsB M)) ∧ ∃ o' φ', RelR k p (failsM M) φ' o' (K + 1) L w' ∧ Turn k o o' w w' := by
  obtain ⟨vn, vs, vw, vk, pl, c0, c1, lf, hh⟩ := h.head
  have H := Lib.hid hh
  have HR := Lib.hid h
  have hx := hh.blk
  have o1 := h.fine.op
  have o2 := h.opb
  have p1 := h.ops.1
  have p2 := h.ops.2
  have HO := Lib.hid hop
  rw [failsB_no hop]
  have hpl := hh.plan
  by_cases hpos : 0 ≤ M.op
  · have e1 : pl = true := by rw [hpl]; exact decide_eq_true hpos
    obtain ⟨hlf, _⟩ := hh.left hpos
    subst e1 hlf
    have e2 : (M.op == 0) = false := beq_eq_false_iff_ne.2 hop
    have e3 : decide (M.op = 0) = false := decide_eq_false hop
    have y3 := hx.cellv (i := 3) rfl
    have y7 := hx.cellv (i := 7) rfl
    have HP := Lib.hid hpos
    have wz : IntKind.i64.wrap (M.op - 1) = M.op - 1 := IntWalk.i64_in _ (by omega)
    have wz2 : IntKind.i64.wrap (M.ops + 1) = M.ops + 1 := IntWalk.i64_in _ (by omega)
    clear hh h hop hpl hpos
    go_enter Try.func33, Try.ntmps33
    go_wp2_with (first
      | ((with_reducible refine gd_store ?_); refine wpList_store_cell rfl 3 (.tmp 26) (.tmp 24) rfl (i := 7) (v := .int .i64 (M.op - 1)) hx (show 7 < 10 by decide) (by kernel_rfl) rfl rfl rfl ?_; intro w1 hx1 hg1; have y9 := hx1.cellv (i := 9) rfl)
      | ((with_reducible refine gd_store ?_); refine wpList_store_cell rfl 3 (.tmp 33) (.tmp 31) rfl (i := 9) (v := .int .i64 (M.ops + 1)) hx1 (show 9 < 10 by decide) (by kernel_rfl) rfl rfl rfl ?_; intro w2 hx2 hg2)
      | fail)
    have hg := hg1.trans hg2
    go_ret
    rw [failsM_no HO.out]
    have hm : max (-1) (M.op - 1) = M.op - 1 := by have := HP.out; have := HO.out; omega
    have hnn : 0 ≤ M.op - 1 := by have := HP.out; have := HO.out; omega
    exact ⟨rfl, o, φ, RelR.counts (M' := { M with op := max (-1) (M.op - 1), ops := M.ops + 1 }) (HR.out.more (Nat.le_succ K) (Nat.le_refl L)) H.out hg hx2 rfl rfl rfl rfl HR.out.fine.goes (by show true = decide (0 ≤ max (-1) (M.op - 1)); rw [hm]; exact (decide_eq_true hnn).symm) (fun _ => ⟨HP.out, by show M.op - 1 = max (-1) (M.op - 1); rw [hm], rfl, rfl, rfl⟩) ⟨by show 0 ≤ M.ops + 1; omega, by show M.ops + 1 ≤ ((K + 1 : Nat) : Int); omega⟩ HR.out.cut (by show max (-1) (M.op - 1) ≤ _; omega), Turn.wrote HR.out.own hg H.out.op⟩
  · have e1 : pl = false := by rw [hpl]; exact decide_eq_false hpos
    subst e1
    have y3 := hx.cellv (i := 3) rfl
    have y9 := hx.cellv (i := 9) rfl
    have HP := Lib.hid hpos
    have wz2 : IntKind.i64.wrap (M.ops + 1) = M.ops + 1 := IntWalk.i64_in _ (by omega)
    clear hh h hop hpl hpos
    go_enter Try.func33, Try.ntmps33
    go_wp2_with (first
      | ((with_reducible refine gd_store ?_); refine wpList_store_cell rfl 3 (.tmp 33) (.tmp 31) rfl (i := 9) (v := .int .i64 (M.ops + 1)) hx (show 9 < 10 by decide) (by kernel_rfl) rfl rfl rfl ?_; intro w2 hx2 hg2)
      | fail)
    go_ret
    rw [failsM_no HO.out]
    have hm : max (-1) (M.op - 1) = -1 := by have := HP.out; omega
    have hB := Turn.wrote HR.out.own hg2 H.out.op
    have hA := RelR.counts (M' := { M with op := max (-1) (M.op - 1), ops := M.ops + 1 }) (HR.out.more (Nat.le_succ K) (Nat.le_refl L)) H.out hg2 hx2 rfl rfl rfl rfl HR.out.fine.goes (by show false = decide (0 ≤ max (-1) (M.op - 1)); rw [hm]; rfl) (fun h0 => absurd h0 (by show ¬ 0 ≤ max (-1) (M.op - 1); rw [hm]; decide)) ⟨by show 0 ≤ M.ops + 1; omega, by show M.ops + 1 ≤ ((K + 1 : Nat) : Int); omega⟩ HR.out.cut (by show max (-1) (M.op - 1) ≤ _; omega)
    first | exact ⟨rfl, o, φ, hA, hB⟩ | exact ⟨rfl, o, ⟨φ, hA⟩, hB⟩
set_option maxRecDepth 100000 in
set_option maxHeartbeats 1000000 in
theorem ReadR_no (h : RelR k p M φ o K L w) (n : Ky) (hb : isB M n = false) : Calls Try.prog 18 #[.pointer (some ⟨p, 0, none⟩), .string ⟨n.toArray⟩] w fun e w' => e = .returned (.tuple #[.slice none 0 0, .bool false]) ∧ Below w.heap.size w w' := by
  obtain ⟨vn, vs, vw, vk, pl, c0, c1, lf, hh⟩ := h.head
  have CF := Lib.hid (find_any φ vn M.now n w (Ents.own hh.now) h.fine.rnow)
  have hx := hh.blk
  obtain ⟨An, cn, rfl⟩ := row_slC hh.now
  have y0 := hx.cellv (i := 0) rfl
  cases hd : M.dead
  · have HG := Lib.hid (show getP M.now n = none by unfold isB at hb; rw [hd] at hb; simpa using hb)
    rw [hd] at hx
    clear hb hh h hd
    go_enter Try.func18, Try.ntmps18
    go_wp2_with (first
      | (go_at_call 32; (with_reducible refine CF.out.mono ?_); rintro e w1 ⟨kx, he, PL, hb1⟩; rw [HG.out] at he; have he2 : e = .returned (.tuple #[.int .i64 (kx : Nat), .bool false]) := he; clear he; subst he2; have y8 := (hx.ext hb1).cellv (i := 8) rfl)
      | fail)
    go_ret2
    exact ⟨rfl, hb1⟩
  · rw [hd] at hx
    clear hb hh h hd
    go_enter Try.func18, Try.ntmps18
    go_wp2_with (first
      | (go_at_call 32; (with_reducible refine CF.out.mono ?_); rintro e w1 ⟨kx, rfl, PL, hb1⟩; have y8 := (hx.ext hb1).cellv (i := 8) rfl)
      | fail)
    go_ret2
    exact ⟨rfl, hb1⟩
set_option maxRecDepth 100000 in
set_option maxHeartbeats 1000000 in
theorem ReadR_yes (h : RelR k p M φ o K L w) (n : Ky) (hb : isB M n = true) {i : Nat} (hg : getP M.now n = some i) (hL : L ≤ 140737488355328) : Calls Try.prog 18 #[.pointer (some ⟨p, 0, none⟩), .string ⟨n.toArray⟩] w fun e w' => ∃ v, e = .returned (.tuple #[v, .bool true]) ∧ w'.ownsRow w.heap.size 5 1 v (M.fs i).b.length (bv (M.fs i).b) ∧ Below w.heap.size w w' := by
  obtain ⟨vn, vs, vw, vk, pl, c0, c1, lf, hh⟩ := h.head
  have CF := Lib.hid (find_any φ vn M.now n w (Ents.own hh.now) h.fine.rnow)
  have hx := hh.blk
  have hd : M.dead = false := by unfold isB at hb; cases hd : M.dead <;> simp_all
  rw [hd] at hx
  obtain ⟨Af, cf, s0, l0, hs0, hl0, f1, f2, f3, f4, f5, f6⟩ := h.at_file (Live.of_now hg)
  obtain ⟨An, cn, rfl⟩ := row_slC hh.now
  have FO := Lib.hid (fun kx (hp : Place M.now n kx) => RelR.found2 hh hg hp)
  have y0 := hx.cellv (i := 0) rfl
  have HG := Lib.hid hg
  have HB := Lib.hid (Bytes.own f3)
  have hT := bytesTyC
  have hll : l0.length ≤ 140737488355328 := by omega
  rw [hl0]
  clear hb hh h hd hg f2 f3 f4 f5 f6 hs0 hl0
  go_enter Try.func18, Try.ntmps18
  go_wp2_with (first
    | (go_at_call 32; (with_reducible refine CF.out.mono ?_); rintro e w1 ⟨kx, he, PL, hb1⟩; rw [HG.out] at he; have he2 : e = .returned (.tuple #[.int .i64 (kx : Nat), .bool true]) := he; clear he; subst he2; have hx1 := hx.ext hb1; have y8 := hx1.cellv (i := 8) rfl; have y0 := hx1.cellv (i := 0) rfl; obtain ⟨i2, ad, ea, hc⟩ := FO.out _ PL; subst ea; have hc1 := cell_ext hb1 hc; have i1 := Int.natCast_nonneg kx; have fx := f1.ext hb1; have z0 := fx.cellv (i := 0) rfl; clear hc PL)
    | (at_builtin; refine wpList_append_bytes rfl (.const (.slice none 0 0)) (.tmp 35) _ rfl w1.heap.size hT (xs := []) rfl (World.ownsRow_nil _ _ _ _) rfl (HB.out.ext hb1) (by omega) (Nat.le_refl _) ?_; intro v2 w2 ho2 hg2 hat2; rw [List.nil_append, Nat.zero_add] at ho2; have hb2 : Below w1.heap.size w1 w2 := ⟨hg2.os, hg2.tape, hg2.output, hg2.size, fun k hk => hg2.block k hk (fun e => by cases e)⟩)
    | fail)
  go_ret2
  exact ⟨v2, rfl, own_base ho2 hb1.size, below_step hb1 hb2⟩
end
end Go.Mun
