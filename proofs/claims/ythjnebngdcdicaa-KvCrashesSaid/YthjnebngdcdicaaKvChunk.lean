/- slices.Chunk of pairs, a thousand at a time. -/
import Derived.Test.YthjnebngdcdicaaKvIn
namespace Go.Mun
open Go Go.RowKit Go.Proofs Go.Shelf

attribute [local go_sem] Oper.semAt_some

/-- what lay below n₀ lies as it lay, but for one block -/
structure Hole (g n₀ : Nat) (W W' : World) : Prop where
  size : W.heap.size ≤ W'.heap.size
  block : ∀ k, k < n₀ → k ≠ g → W'.heap[k]? = W.heap[k]?
section
variable {g n₀ : Nat} {W W' W2 : World}
theorem Hole.refl (g n₀ : Nat) (W : World) : Hole g n₀ W W := ⟨Nat.le_refl _, fun _ _ _ => rfl⟩
theorem Hole.trans (h : Hole g n₀ W W') (k : Hole g n₀ W' W2) : Hole g n₀ W W2 := ⟨Nat.le_trans h.size k.size, fun j h1 h2 => (k.block j h1 h2).trans (h.block j h1 h2)⟩
theorem Hole.below {m : Nat} (h : Below m W W') (hm : n₀ ≤ m) : Hole g n₀ W W' := ⟨h.size, fun k hk _ => h.block k (Nat.lt_of_lt_of_le hk hm)⟩
theorem Hole.grown {row : Option Nat} (h : W.grownBy W' row) (hr : ∀ r, row = some r → r = g ∨ n₀ ≤ r) (hn : n₀ ≤ W.heap.size) : Hole g n₀ W W' :=
  ⟨h.size, fun k hk hg => h.block k (Nat.lt_of_lt_of_le hk hn) fun e => (hr k e.symm).elim hg (by omega)⟩
theorem Hole.put (W : World) {l : Nat} (o' : Obj) (hl : n₀ ≤ l) : Hole g n₀ W (W.putObj l o') := by
  have hg := grownBy_putObj' W l o'
  refine ⟨hg.size, fun k hk _ => ?_⟩
  by_cases hlt : k < W.heap.size
  · exact hg.block k hlt fun e => by injection e with e; omega
  · have e : (W.putObj l o').heap.size = W.heap.size := by simp [World.putObj]
    rw [Array.getElem?_eq_none (xs := (W.putObj l o').heap) (by omega), Array.getElem?_eq_none (xs := W.heap) (by omega)]
theorem Hole.blk {b : Nat} {t : TypeId} {cs : Array Value} (H : Hole g n₀ W W') (h : Blk W b t cs) (hb : b < n₀) (hg : b ≠ g) : Blk W' b t cs := (H.block b hb hg).trans h
theorem Hole.own {base size n : Nat} {e : TypeId} {v : Value} {xs : List Value} (H : Hole g n₀ W W') (h : W.ownsRow base e size v n xs) (hb : g < base) (hn : W.heap.size ≤ n₀) : W'.ownsRow base e size v n xs := by
  obtain ⟨h1, h2⟩ := h
  refine ⟨h1, h2.imp_right ?_⟩
  rintro ⟨g', cap, cur, e1, e2, e3, e4⟩
  exact ⟨g', cap, cur, e1, e2, (H.block g' (Nat.lt_of_lt_of_le (Array.getElem?_eq_some_iff.1 e3).1 hn) (by omega)).trans e3, e4⟩
theorem Hole.bytes {t : TypeId} {B : Option Addr} {m c : Nat} {v : Value} {l : List UInt8} (H : Hole g n₀ W W') (hx : Blk W g t #[.slice B m c]) (h : Bytes W v l) (hn : W.heap.size ≤ n₀) : Bytes W' v l := by
  obtain ⟨A, n, c', rfl, h1, h2, h3, h4⟩ := h
  refine ⟨_, _, _, rfl, h1, h2, h3, fun j u hj => ?_⟩
  obtain ⟨ad, e, hc⟩ := h4 j u hj
  refine ⟨ad, e, ?_⟩
  have hlt : (ad.add j).block < W.heap.size := by
    rcases Nat.lt_or_ge (ad.add j).block W.heap.size with h' | h'
    · exact h'
    · unfold World.cell? at hc
      rw [Array.getElem?_eq_none h'] at hc
      cases hc
  refine (World.cell?_of_block (H.block _ (Nat.lt_of_lt_of_le hlt hn) fun e2 => ?_)).trans hc
  unfold World.cell? at hc
  rw [e2, show W.heap[g]? = _ from hx] at hc
  simp only at hc
  split at hc
  · cases hc
  · rename_i hs
    rcases hj' : (ad.add j).off with _ | q
    · rw [hj'] at hc
      injection hc with hc
      have : u ∈ bv l := List.mem_of_getElem? hj
      unfold bv at this
      obtain ⟨b, _, e5⟩ := List.mem_map.1 this
      rw [← hc] at e5
      cases e5
    · rw [hj'] at hc
      cases hc
end
/-- the numbers of the parts -/
abbrev Ck (m : Nat) := { k : Nat // k * 1000 < m }
/-- a part, as it is handed over -/
def cval (A : Option Addr) (m k : Nat) : Value := .slice (A.map (·.add (k * 1000 * 2))) (min 1000 (m - k * 1000)) (min 1000 (m - k * 1000))
theorem cut_chunk {A : Option Addr} {m c k : Nat} (hk : k * 1000 < m) (hc : m ≤ c) (w : World) :
    (Instr.slice 40 (.slice A m c) (some (.int .i64 ((k * 1000 : Nat) : Int))) (some (.int .i64 ((k * 1000 + min 1000 (m - k * 1000) : Nat) : Int))) (some (.int .i64 ((k * 1000 + min 1000 (m - k * 1000) : Nat) : Int)))).run Try.prog w = .ok (cval A m k) w := by
  have hT := pairsTy
  rw [run_slice_lhm w 40 A m c hT.under .i64 .i64 .i64 _ _ _ (by omega) (by omega) (Int.le_refl _) (by omega), hT.sizeOf_elem]
  simp only [Result.andThen, sliced, cval, Int.toNat_natCast]
  rw [if_neg (by omega), show k * 1000 + min 1000 (m - k * 1000) - k * 1000 = min 1000 (m - k * 1000) by omega]
set_option maxRecDepth 100000 in
set_option maxHeartbeats 2000000 in
theorem chunk1_in (n : Nat) (hn : 1 ≤ n) (l B1 B2 g n₀ m c : Nat) (A : Option Addr) (hm : m ≤ 2000) (hmc : m ≤ c) (hb1 : B1 < n₀) (hb2 : B2 < n₀) (hg1 : B1 ≠ g) (hg2 : B2 ≠ g) (J Jx : List (Ck m) → World → Prop) (hJ : ∀ s (W : World) (q : Nat), J s W → J s (W.drewN q))
    (hY : ∀ pre x W, J pre W → pre.length < chunkN m → YieldAt Fence.wide (n - 1) Try.prog l #[cval A m x.1] W fun e W' =>
      (e = .returned (.bool true) ∧ J (pre ++ [x]) W' ∧ Hole g n₀ W W') ∨ (e = .returned (.bool false) ∧ Jx (pre ++ [x]) W'))
    (W : World) (h1 : Blk W B1 40 #[.slice A m c]) (h2 : Blk W B2 3 #[.int .i64 1000]) (h0 : J [] W) :
    CallsIn Fence.wide n Try.prog 77 #[.func (.yield l) #[] #[], .pointer (some ⟨B1, 0, none⟩), .pointer (some ⟨B2, 0, none⟩)] W fun e W' => (∃ v, e = .returned v) ∧
      ((∃ ys, ys.map (·.1) = List.range (chunkN m) ∧ J ys W') ∨ (∃ pre, True ∧ Jx pre W')) := by
  refine callsIn_of_wp Try.func77 rfl trivial ?_ rfl
  simp only [Try.ntmps77, List.size_toArray, List.length_cons, List.length_nil, Nat.reduceAdd, Nat.reduceSub, Array.replicate_succ, Array.replicate_zero, List.push_toArray, List.append_toArray, List.nil_append, List.cons_append]
  gi_wp2
  gi_loopw [4] (fun i wr => ∃ (k lo : Nat) (ys : List (Ck m)), k ≤ chunkN m ∧ lo = k * 1000 ∧ i = .int .i64 (lo : Nat) ∧ ys.map (·.1) = List.range k ∧ J ys wr ∧ Hole g n₀ W wr)
    (fun i _ => m + 1000 - (RowKit.intOf i).toNat)
  case atStart => exact ⟨0, 0, [], Nat.zero_le _, rfl, rfl, rfl, h0, Hole.refl _ _ _⟩
  case round =>
    obtain ⟨k, lo, ys, hk, hlo, rfl, hys, hJs, hB⟩ := hrel
    have y1 := (hB.blk h1 hb1 hg1).cellv (i := 0) rfl
    have y2 := (hB.blk h2 hb2 hg2).cellv (i := 0) rfl
    by_cases hlt : lo < m
    · have f1 : decide ((lo : Int) < (m : Int)) = true := decide_eq_true (by omega)
      have hklt : k * 1000 < m := by omega
      have HLO := Lib.hid hlo
      have HKL := Lib.hid hklt
      have HCH := Lib.hid (fun (w : World) => cut_chunk (A := A) hklt hmc w)
      have hkN : k + 1 ≤ chunkN m := by unfold chunkN; omega
      have HKN := Lib.hid hkN
      clear hlo hklt hkN hk
      gi_wp2
      refine wpIn_wide.2 ?_
      go_quiet (fail)
      have hJn := hJ _ _ nq hJs
      have hBn : Hole g n₀ W (wr.drewN nq) := ⟨hB.size, hB.block⟩
      generalize wr.drewN nq = wn at hJn hBn ⊢
      have y1 := (hBn.blk h1 hb1 hg1).cellv (i := 0) rfl
      have y2 := (hBn.blk h2 hb2 hg2).cellv (i := 0) rfl
      obtain ⟨fn, tmps, assign, body, hy, hR⟩ := hY ys ⟨k, HKL.out⟩ wn hJn (by have := congrArg List.length hys; rw [List.length_map, List.length_range] at this; have := HKN.out; omega)
      obtain ⟨en, hen⟩ : ∃ x, x = min 1000 (m - lo) := ⟨_, rfl⟩
      have emin : min (1000 : Int) ((m - lo : Nat) : Int) = (en : Int) := by omega
      simp only [emin]
      have ew : IntKind.i64.wrap ((lo : Int) + (en : Int)) = (lo : Int) + (en : Int) := IntWalk.i64_in _ (by omega)
      have ew2 : wrap64 ((lo : Int) + (en : Int)) = (lo : Int) + (en : Int) := by unfold wrap64; omega
      obtain ⟨cv, hcv⟩ : ∃ x, x = cval A m k := ⟨_, rfl⟩
      have qs : ∀ w, (Instr.slice 40 (.slice A m c) (some (.int .i64 (lo : Int))) (some (.int .i64 ((lo : Int) + (en : Int)))) (some (.int .i64 ((lo : Int) + (en : Int))))).run Try.prog w = .ok cv w := fun w => by
        have h3 := HCH.out w
        rw [← hcv, ← HLO.out, ← hen, show ((lo + en : Nat) : Int) = (lo : Int) + (en : Int) by omega] at h3
        exact h3
      have hy' : (Instr.yield l #[cv]).run Try.prog wn = .ok (.round l fn tmps assign body) wn := by rw [hcv]; exact hy
      clear hy hcv emin hen
      try simp only [Exit.then]
      try go_simp
      gi_wp2
      refine hR.mono ?_
      rintro e W3 (⟨rfl, hJ3, hk3⟩ | ⟨rfl, hJx3⟩)
      · have y2 := ((hBn.trans hk3).blk h2 hb2 hg2).cellv (i := 0) rfl
        have hys3 : (ys ++ [(⟨k, HKL.out⟩ : Ck m)]).map (·.1) = List.range (k + 1) := by rw [List.map_append, hys, List.range_succ]; rfl
        gi_wp2
        go_roundw
        case rel => exact ⟨k + 1, lo + 1000, _, HKN.out, by have := HLO.out; omega, by go_num, hys3, hJ3, hBn.trans hk3⟩
        case measure => simp [RowKit.intOf]; omega
      · gi_wp2
        refine bodyPost_ret (results_none rfl _ _ _) rfl ?_
        exact ⟨⟨_, rfl⟩, .inr ⟨_, trivial, hJx3⟩⟩
    · have f1 : decide ((lo : Int) < (m : Int)) = false := decide_eq_false (by omega)
      have hkN : k = chunkN m := by unfold chunkN at hk ⊢; omega
      have HKN := Lib.hid hkN
      clear hkN hlo hk
      gi_wp2
      go_end0
      exact ⟨⟨_, rfl⟩, .inl ⟨ys, by rw [hys, HKN.out], hJs⟩⟩
end Go.Mun
