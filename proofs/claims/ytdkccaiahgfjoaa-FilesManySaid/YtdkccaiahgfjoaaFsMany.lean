/- Many files, plainly; rows of three. -/
import Derived.Test.YtdkccaiahgfjoaaFsAlive
namespace Go.Mun
open Go Go.RowKit

theorem run_row_three {P : Program} {t e : TypeId} {z : Value} {bytes : Nat} (hT : SliceTy P t e z 1 bytes) (x y u : Value) (hx : x.cells = #[x]) (hy : y.cells = #[y]) (hu : u.cells = #[u]) (w : World) :
    (Instr.buildSlice t 3 #[(0, x), (1, y), (2, u)]).run P w = .ok (.slice (some ⟨w.heap.size, 0, none⟩) 3 3) (w.alloc (.cells #[x, y, u] e)) := by
  obtain ⟨ht, i, hi, hz, hsz, hby, hzs, h0⟩ := hT
  have hf : Instr.fill (fun k => some (k * 1, 1)) ((Array.range 3).map (fun k => z.cells[k % z.cells.size]!)) [(0, x), (1, y), (2, u)] = some #[x, y, u] := by
    simp [Instr.fill, hx, hy, hu, Array.range]
    apply Array.ext_getElem?
    intro j
    match j with
    | 0 => simp
    | 1 => simp
    | 2 => simp
    | j + 3 => simp
  simp [Instr.buildSlice, run_underlying ht, sizeOf, typeInfo, hi, hsz, hz, zeroValue, newRow]
  simp only [Nat.mul_one] at hf
  rw [hf]
  rfl
theorem wpList_row_three {P : Program} {ops : Array Oper} {rest : List Oper} {o : Oper} {a : Act} {w : World} {Q : Exit → Act → World → Prop} (hgd : o.guard = none) {t e : TypeId} (x y r : Operand) (ho : o.op = .buildSlice t 3 #[(0, x), (1, y), (2, r)])
    {z : Value} {bytes : Nat} (hT : SliceTy P t e z 1 bytes) {v u s : Value} (hx : a.eval x = v) (hy : a.eval y = u) (hr : a.eval r = s) (hv : v.cells = #[v]) (hu : u.cells = #[u]) (hs : s.cells = #[s])
    (h : ∀ w', Blk w' w.heap.size e #[v, u, s] → Below w.heap.size w w' → w.heap.size < w'.heap.size → wpList P ops Q rest (a.put o.dst (.slice (some ⟨w.heap.size, 0, none⟩) 3 3)) w') : wpList P ops Q (o :: rest) a w := by
  refine wpList_plain hgd fun _ hK => ?_
  have hq := run_row_three hT v u s hv hu hs w
  unfold Oper.wp execOp
  simp only [ho, List.map_toArray, List.map_cons, List.map_nil, hx, hy, hr, Sem.run_bind, hq, Result.andThen_ok, Sem.run_pure]
  exact hK _ _ (h _ (Blk.new w e _) ((Below.refl _ _).alloc (Nat.le_refl _) _) (by simp))
/-- the i-th name -/
def nmM (i : Nat) : Ky := [102, UInt8.ofNat (97 + i / 26), UInt8.ofNat (97 + i % 26)]
theorem toNat_small {k : Nat} (h : k < 256) : (UInt8.ofNat k).toNat = k := by rw [UInt8.toNat_ofNat']; omega
theorem nmM_ne {i j : Nat} (hi : i < 210) (hj : j < 210) (h : i ≠ j) : nmM i ≠ nmM j := fun e => by
  unfold nmM at e
  injection e with _ e
  injection e with e1 e
  injection e with e2 _
  have f1 := congrArg UInt8.toNat e1
  have f2 := congrArg UInt8.toNat e2
  rw [toNat_small (by omega), toNat_small (by omega)] at f1
  rw [toNat_small (by omega), toNat_small (by omega)] at f2
  omega
theorem nmM_bytes {w : World} {g i : Nat} (hi : i < 210) (h : Blk w g 5 #[.int .u8 102, .int .u8 (97 + ((i / 26 : Nat) : Int)), .int .u8 (97 + ((i % 26 : Nat) : Int))]) : Bytes w (.slice (some ⟨g, 0, none⟩) 3 3) (nmM i) := by
  refine ⟨_, _, _, rfl, rfl, Nat.le_refl _, by decide, ?_⟩
  have e : bv (nmM i) = [.int .u8 102, .int .u8 (97 + ((i / 26 : Nat) : Int)), .int .u8 (97 + ((i % 26 : Nat) : Int))] := by
    unfold nmM bv
    simp only [List.map_cons, List.map_nil]
    rw [toNat_small (show 97 + i / 26 < 256 by omega), toNat_small (show 97 + i % 26 < 256 by omega)]
    simp
  rw [e]
  exact h.rd
/-- behind i of them -/
structure ManyOk (i : Nat) (M : FSs) : Prop where
  dead : M.dead = false
  op : M.op = -1
  len : M.now.length = min i 200
  none : ∀ j, i ≤ j → j < 210 → getP M.now (nmM j) = none
theorem many0 : ManyOk 0 newM := ⟨rfl, rfl, rfl, fun _ _ _ => rfl⟩
theorem nmM_named (i : Nat) : namedB (nmM i) = true := by simp [namedB, nmM]
theorem drop_none {P : PL Nat} {k : Ky} (h : getP P k = none) : dropP P k = P := by
  unfold dropP
  refine List.filter_eq_self.2 fun p hp => decide_eq_true fun e => ?_
  induction P with
  | nil => cases hp
  | cons q P ih =>
    by_cases hq : q.1 = k
    · rw [getP, if_pos hq] at h; cases h
    · rw [getP, if_neg hq] at h
      rcases List.mem_cons.1 hp with rfl | hp
      · exact hq e
      · exact ih h hp
theorem many_ok {i : Nat} {M : FSs} (h : ManyOk i M) (hi : i < 210) : goesB M (appOk M (nmM i)) = decide (i < 200) := by
  have e : failsB M = false := decide_eq_false (by rw [h.op]; decide)
  unfold goesB
  rw [e]
  by_cases h2 : i < 200
  · rw [appOk_new h.dead (nmM_named i) (h.none i (Nat.le_refl _) hi) (by rw [h.len]; omega), decide_eq_true h2]; rfl
  · rw [appOk_full (h.none i (Nat.le_refl _) hi) (by rw [h.len]; omega), decide_eq_false h2]; rfl
theorem many_next {i : Nat} {M : FSs} (h : ManyOk i M) (hi : i < 210) : ManyOk (i + 1) (appM M (nmM i) []) := by
  have e : failsB M = false := decide_eq_false (by rw [h.op]; decide)
  have hn := h.none i (Nat.le_refl _) hi
  by_cases h2 : i < 200
  · unfold appM
    rw [thenM_go (appOk_new h.dead (nmM_named i) hn (by rw [h.len]; omega)) e, app1, goes_now e, hn, failsM_no (of_decide_eq_false e)]
    have hl : (setP M.now (nmM i) (some M.next)).length = M.now.length + 1 := by
      show (insP (nmM i, M.next) (dropP M.now (nmM i))).length = _
      rw [length_insP, drop_none hn]
    refine ⟨h.dead, by show max (-1) (M.op - 1) = -1; rw [h.op]; decide, ?_, fun j h3 h4 => ?_⟩
    · show (setP M.now (nmM i) (some M.next)).length = _
      rw [hl, h.len]; omega
    · show getP (setP M.now (nmM i) (some M.next)) (nmM j) = none
      rw [getP_set, if_neg (nmM_ne h4 hi (by omega))]
      exact h.none j (by omega) h4
  · have : appM M (nmM i) [] = M := thenM_no (appOk_full hn (by rw [h.len]; omega))
    rw [this]
    exact ⟨h.dead, h.op, by rw [h.len]; omega, fun j h3 h4 => h.none j (by omega) h4⟩
theorem zeros_named (k : Nat) : goesB newM (appOk newM (List.replicate k 0)) = decide (1 ≤ k ∧ k ≤ 100) := by
  have e : failsB newM = false := rfl
  have hn : namedB (List.replicate k 0) = decide (1 ≤ k ∧ k ≤ 100) := by
    unfold namedB
    rw [Bool.eq_iff_iff, decide_eq_true_iff, decide_eq_true_iff, List.length_replicate]
    constructor
    · rintro ⟨h1, h2⟩
      refine ⟨?_, h2⟩
      cases k with
      | zero => exact absurd rfl h1
      | succ k => omega
    · rintro ⟨h1, h2⟩
      exact ⟨by intro e; have := congrArg List.length e; simp at this; omega, h2⟩
  unfold goesB
  rw [e, ← hn]
  cases h : namedB (List.replicate k 0)
  · rw [appOk_name h]; rfl
  · rw [appOk_new rfl h rfl (by decide)]; rfl
end Go.Mun
