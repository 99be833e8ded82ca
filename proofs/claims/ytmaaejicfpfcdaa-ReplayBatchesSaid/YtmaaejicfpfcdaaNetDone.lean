/- The document's pairs: what changes, and batches, leave. -/
import Derived.Test.YtmaaejicfpfcdaaNetSet
namespace Go.Mun
open Go Go.RowKit Go.Proofs

theorem length_done (S : PL (List UInt8)) (l : List Rec) : (doneP S l).length ≤ S.length + l.length := by
  induction l generalizing S with
  | nil => exact Nat.le_refl _
  | cons o l ih =>
    have h1 := ih (setP S o.key o.left)
    have h2 := length_set S o.key o.left
    show (doneP (setP S o.key o.left) l).length ≤ _
    rw [List.length_cons]
    omega
/-- no change is too great for the walk -/
def Fit (l : List Rec) : Prop := ∀ o ∈ l, o.key.length ≤ 1000000 ∧ o.value.length ≤ 1000000
set_option maxRecDepth 100000 in
set_option maxHeartbeats 4000000 in
theorem Done_any (va vl : Value) (P : PL (List UInt8)) (l : List Rec) (w : World) (h : SliceOf 2 rPair w va P) (hl : SliceOf 3 rOp w vl l) (hP : Rises P) (hn : P.length + l.length ≤ 100000) (hf : Fit l) :
    Calls Try.prog 50 #[va, vl] w fun e w' => ∃ v', e = .returned v' ∧ SliceOf 2 rPair w' v' (doneP P l) ∧ Below w.heap.size w w' := by
  obtain ⟨A, n, c, xs, rfl, g1, g2, g3, g4, g5, g6⟩ := hl
  unfold maxLen at g4
  have HOP := Lib.hid (fun (i : Nat) (hi : i < n) (w' : World) (hb : Below w.heap.size w w') => op_at' (g5.ext hb) g1 g2 g6 hi)
  have HF := Lib.hid hf
  have HLN := Lib.hid (fun j => Nat.le_trans (length_done P (l.take j)) (show P.length + (l.take j).length ≤ 100000 by rw [List.length_take]; omega))
  have HTK := Lib.hid (show l.take n = l by rw [← g1]; exact List.take_length)
  have H0 := Lib.hid h
  clear hf g1 g2 g5 g6 hn h
  go_enter Try.func50, Try.ntmps50
  go_wp2
  go_loopw [0, 5] (fun vp iv wr => ∃ (j : Nat), j ≤ n ∧ iv = .int .i64 j ∧ SliceOf 2 rPair wr vp (doneP P (l.take j)) ∧ Below w.heap.size w wr) (fun _ iv _ => n - (RowKit.intOf iv).toNat)
  case atStart => exact ⟨0, Nat.zero_le _, rfl, H0.out, Below.refl _ _⟩
  case round =>
    obtain ⟨j, hj, rfl, hs, hBr⟩ := hrel
    by_cases hlt : j < n
    · obtain ⟨ad2, o, kv, vv, rfl, r0, r1, r2, hoi, hkb, hvb⟩ := HOP.out j hlt _ hBr
      have f2 : decide ((j : Int) < n) = true := decide_eq_true (by omega)
      have b3 : (0 : Int) ≤ j := by omega
      have b4 : (j : Int) < n := by omega
      have HFO := Lib.hid (HF.out o (List.mem_of_getElem? hoi))
      have HOB := Lib.hid (And.intro (hkb.ext hBr) (hvb.ext hBr))
      have HSN := Lib.hid (doneP_snoc P hoi)
      have HS := Lib.hid hs
      obtain ⟨AK, nk, cK, hkv, _⟩ := id hkb
      subst hkv
      obtain ⟨AV, nv, cV, hvv, _⟩ := id hvb
      subst hvv
      clear hkb hvb hoi hs
      go_wp2_with (first
        | (go_at_call 54; refine (setPair_any _ _ o AK AV nk cK nv cV _ HS.out (doneP_rises _ hP) (HLN.out j) HOB.out.1 HOB.out.2 HFO.out.1 HFO.out.2).mono ?_; rintro e w4 ⟨v4, rfl, hs4, hb4⟩)
        | fail)
      have hB4 := below_step hBr hb4
      go_roundw
      case rel => exact ⟨j + 1, by omega, by go_num, by rw [HSN.out]; exact hs4, hB4⟩
      case measure => simp [RowKit.intOf]; omega
    · obtain rfl : j = n := by omega
      have f1 : decide ((j : Int) < j) = false := decide_eq_false (by omega)
      rw [HTK.out] at hs
      go_wp2
      go_ret
      exact ⟨_, rfl, hs, hBr⟩
/-- no batch is too great for the walk -/
def FitL (LL : List (List Rec)) : Prop := ∀ l ∈ LL, l.length ≤ 100 ∧ Fit l
theorem length_live {LL : List (List Rec)} (h : FitL LL) : (liveP LL).length ≤ 100 * LL.length := by
  suffices ∀ (LL : List (List Rec)) (S : PL (List UInt8)), FitL LL → (LL.foldl doneP S).length ≤ S.length + 100 * LL.length by
    have := this LL [] h
    unfold liveP
    simpa using this
  intro LL
  induction LL with
  | nil => intro S _; exact Nat.le_refl _
  | cons l LL ih =>
    intro S h
    have h1 := ih (doneP S l) fun m hm => h m (by simp [hm])
    have h2 := length_done S l
    have h3 := (h l (by simp)).1
    rw [List.length_cons]
    show (LL.foldl doneP (doneP S l)).length ≤ _
    omega
set_option maxRecDepth 100000 in
set_option maxHeartbeats 4000000 in
theorem DLive_any (v : Value) (LL : List (List Rec)) (w : World) (h : SliceOf 1 (rSlice 3 rOp) w v LL) (hn : LL.length ≤ 900) (hf : FitL LL) :
    Calls Try.prog 35 #[v] w fun e w' => ∃ v', e = .returned v' ∧ SliceOf 2 rPair w' v' (liveP LL) ∧ Below w.heap.size w w' := by
  obtain ⟨A, n, c, xs, rfl, g1, g2, g3, g4, g5, g6⟩ := h
  unfold maxLen at g4
  have HLA := Lib.hid (fun (j : Nat) (hj : j < n) (w' : World) (hb : Below w.heap.size w w') => out_at (g5.ext hb) g1 g2 g6 hj)
  have HF := Lib.hid hf
  have HLN := Lib.hid (fun j => Nat.le_trans (length_live (LL := LL.take j) fun m hm => hf m (List.mem_of_mem_take hm)) (show 100 * (LL.take j).length ≤ 90000 by rw [List.length_take]; omega))
  have HTK := Lib.hid (show LL.take n = LL by rw [← g1]; exact List.take_length)
  clear hf g1 g2 g5 g6 hn
  go_enter Try.func35, Try.ntmps35
  go_wp2
  go_loopw [3, 4] (fun vp iv wr => ∃ (j : Nat), j ≤ n ∧ iv = .int .i64 j ∧ SliceOf 2 rPair wr vp (liveP (LL.take j)) ∧ Below w.heap.size w wr) (fun _ iv _ => n - (RowKit.intOf iv).toNat)
  case atStart => exact ⟨0, Nat.zero_le _, rfl, slice_of_own (World.ownsRow_nil w w.heap.size 79 2) rfl (fun i h => by simp [liveP] at h), Below.refl _ _⟩
  case round =>
    obtain ⟨j, hj, rfl, hs, hBr⟩ := hrel
    by_cases hlt : j < n
    · obtain ⟨ad1, v1, l, rfl, p0, hlj, hsl⟩ := HLA.out j hlt wr hBr
      have f2 : decide ((j : Int) < n) = true := decide_eq_true (by omega)
      have b3 : (0 : Int) ≤ j := by omega
      have b4 : (j : Int) < n := by omega
      have HFO := Lib.hid (HF.out l (List.mem_of_getElem? hlj))
      have HSL := Lib.hid (hsl.ext rOp_stays hBr)
      have HSN := Lib.hid (liveP_snoc hlj)
      have HS := Lib.hid hs
      clear hlj hsl hs
      go_wp2_with (first
        | (go_at_call 50; refine (Done_any _ _ _ l _ HS.out HSL.out (liveP_rises _) (by have := HLN.out j; have := HFO.out.1; omega) HFO.out.2).mono ?_; rintro e w4 ⟨v4, rfl, hs4, hb4⟩)
        | fail)
      have hB4 := below_step hBr hb4
      go_roundw
      case rel => exact ⟨j + 1, by omega, by go_num, by rw [HSN.out]; exact hs4, hB4⟩
      case measure => simp [RowKit.intOf]; omega
    · obtain rfl : j = n := by omega
      have f1 : decide ((j : Int) < j) = false := decide_eq_false (by omega)
      rw [HTK.out] at hs
      go_wp2
      go_ret
      exact ⟨_, rfl, hs, hBr⟩
end Go.Mun
