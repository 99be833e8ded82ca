/- 'ReplayAppends' answers true at every input, and leaves what it was given. No condition. -/
import Derived.Test.YtmaaejicfpfcdaaRpMore
import Derived.Test.YtmaaejicfpfcdaaLaw
import Derived.Test.YtmaaejicfpfcdaaRows
namespace Go.Proofs.Ytmaaejicfpfcdaa.ReplayAppends
open Go Go.RowKit Go.Mun Go.Proofs

theorem below_base {B : Nat} {w w' : World} (h : Below w.heap.size w w') (hb : B ≤ w.heap.size) : Below B w w' := h.mono hb
/-- a goal that the walk leaves as it is -/
def Hold (p : Prop) : Prop := p
theorem hold_out {p : Prop} (h : Hold p) : p := h
theorem hold_in {p : Prop} (h : p) : Hold p := h
theorem ok_snoc {LL : List (List Rec)} {m : List Rec} (h : ∀ l ∈ LL, SmallL l) (hm : SmallL m) : ∀ l ∈ LL ++ [m], SmallL l := fun l hl => by
  rcases List.mem_append.1 hl with h1 | h1
  · exact h l h1
  · rw [List.mem_singleton.1 h1]; exact hm
theorem OutC.ext {w w' : World} {co : List Value} {out : List (List Rec)} (h : OutC w co out) (hb : Below w.heap.size w w') : OutC w' co out := ⟨h.1, fun i hi => rSlice_stays rOp_stays _ _ _ _ hb (h.2 i hi)⟩
theorem OutC.one {w : World} {co : List Value} {out : List (List Rec)} (h : OutC w co out) : ∀ u ∈ co, u.oneCell' = true := by
  intro u hu
  obtain ⟨i, hi, rfl⟩ := List.getElem_of_mem hu
  obtain ⟨v, e, A, n, c, _, rfl, _⟩ := h.2 i (by have := h.1; omega)
  have e2 : (chunk co 1 i)[0]? = some (.slice A n c) := by rw [e]; rfl
  unfold chunk at e2
  rw [List.getElem?_take, if_pos (by omega), List.getElem?_drop, Nat.mul_one, Nat.add_zero, List.getElem?_eq_getElem hi] at e2
  injection e2 with e2
  rw [e2]
  rfl
theorem out_row {w : World} {B n : Nat} {e : TypeId} {v u : Value} {xs : List Value} {LL : List (List Rec)} {m : List Rec} (ho : w.ownsRow B e 1 v (n + 1) (xs ++ [u])) (hl : LL.length = n) (hx : OutC w xs LL) (hu : SliceOf 3 rOp w u m) : SliceOf 1 (rSlice 3 rOp) w v (LL ++ [m]) :=
  slice_of_own ho (by rw [List.length_append, hl]; rfl) (hx.more hu).2
theorem row_c {w : World} {B N : Nat} {e : TypeId} {v : Value} {a b : List UInt8} (h : w.ownsRow B e 1 v (N + b.length) (bv (a ++ b))) (hN : N = a.length) : w.ownsRow B e 1 v (a ++ b).length (bv (a ++ b)) := by
  subst hN
  rw [List.length_append]
  exact h
/-- what each operation of the region writes -/
def S16 (N T q cc cA ct : Nat) (AA At : Option Addr) : Nat → Value → World → Prop
  | 0, v, _ => v = .slice AA N cA
  | 1, _, _ => True
  | 2, v, _ => v = .slice At T ct
  | 3, v, _ => v = .int .i64 (q : Nat)
  | 4, v, _ => v = .slice At T ct
  | 5, v, _ => v = .int .i64 (T : Nat)
  | 6, v, _ => v = .int .i64 (cc : Nat)
  | 7, v, _ => v = .slice At cc ct
  | 8, _, _ => True
  | 9, v, _ => ∃ v', v = .tuple #[v', .int .i64 (N : Nat)]
  | 10, v, _ => ∃ v', v = .tuple #[v', .int .i64 (N : Nat)]
  | 11, _, _ => True
  | 12, v, _ => v = .int .i64 (N : Nat)
  | 13, _, _ => True
  | _, v, _ => v = .int .i64 (N : Nat)
theorem S16_stays (B N T q cc cA ct : Nat) (AA At : Option Addr) : ∀ i v (wa wb : World), Below B wa wb → S16 N T q cc cA ct AA At i v wa → S16 N T q cc cA ct AA At i v wb
  | 0, _, _, _, _, h => h
  | 1, _, _, _, _, h => h
  | 2, _, _, _, _, h => h
  | 3, _, _, _, _, h => h
  | 4, _, _, _, _, h => h
  | 5, _, _, _, _, h => h
  | 6, _, _, _, _, h => h
  | 7, _, _, _, _, h => h
  | 8, _, _, _, _, h => h
  | 9, _, _, _, _, h => h
  | 10, _, _, _, _, h => h
  | 11, _, _, _, _, h => h
  | 12, _, _, _, _, h => h
  | 13, _, _, _, _, h => h
  | _ + 14, _, _, _, _, h => h
/-- how far the region has come -/
def J16 (B N : Nat) (ba bc : List UInt8) (L : Nat → Bool) (V : Nat → Value) (w : World) : Prop :=
  (L 1 = true → L 8 = false → w.ownsRow B 5 1 (V 1) N (bv ba)) ∧ (L 8 = true → w.ownsRow B 5 1 (V 8) (ba ++ bc).length (bv (ba ++ bc)))
theorem J16_far (B N : Nat) (ba bc : List UInt8) {L : Nat → Bool} {V : Nat → Value} {w : World} (hJ : J16 B N ba bc L V w) {k : Nat} {v : Value} (h1 : (1 : Nat) ≠ k) (h8 : (8 : Nat) ≠ k) : J16 B N ba bc (updL L k) (upd V k v) w := by
  unfold J16 at hJ ⊢
  simp only [updL_ne h1, updL_ne h8, upd_ne h1, upd_ne h8]
  exact hJ

set_option maxRecDepth 100000 in
set_option maxHeartbeats 1000000 in
theorem walk_big1 (v1 v2 v3 : Value) (LL : List (List Rec)) (torn more : List Rec) (w : World) (h : SliceOf 1 (rSlice 3 rOp) w v1 LL) (ht : SliceOf 3 rOp w v2 torn) (hm : SliceOf 3 rOp w v3 more) (q : Int) (_h1 : -9223372036854775808 ≤ q) (_h2 : q ≤ 9223372036854775807) (hs1 : ¬ SmallL torn) :
    Calls Try.prog 12 #[v1, v2, v3, .int .i64 q] w fun e w' => e = .returned (.bool true) ∧ Below w.heap.size w w' := by
  have CA := Lib.hid alive22
  have tkB : True := trivial
  obtain ⟨A, n, c, xs, rfl, g1, g2, g3, g4, g5, g6⟩ := h
  unfold maxLen at g4
  clear g2 g5 g6
  go_enter Try.func12, Try.ntmps12
  go_wp2_with (first
    | (go_at_call 26; refine (CA.out _).mono ?_; rintro e w1 ⟨rfl, hb1⟩; have ht1 := ht.ext rOp_stays hb1; have hm1 := hm.ext rOp_stays hb1)
    | (go_at_call 30; have _t := tkB; refine (Big_yes _ _ _ ht1 hs1).mono ?_; clear tkB; rintro e w2 ⟨rfl, rfl⟩)
    | fail)
  go_ret
  exact ⟨rfl, hb1⟩

set_option maxRecDepth 100000 in
set_option maxHeartbeats 1000000 in
theorem walk_big2 (v1 v2 v3 : Value) (LL : List (List Rec)) (torn more : List Rec) (w : World) (h : SliceOf 1 (rSlice 3 rOp) w v1 LL) (ht : SliceOf 3 rOp w v2 torn) (hm : SliceOf 3 rOp w v3 more) (q : Int) (_h1 : -9223372036854775808 ≤ q) (_h2 : q ≤ 9223372036854775807) (hs1 : SmallL torn) (hs2 : ¬ SmallL more) :
    Calls Try.prog 12 #[v1, v2, v3, .int .i64 q] w fun e w' => e = .returned (.bool true) ∧ Below w.heap.size w w' := by
  have CA := Lib.hid alive22
  have tkB : True := trivial
  obtain ⟨A, n, c, xs, rfl, g1, g2, g3, g4, g5, g6⟩ := h
  unfold maxLen at g4
  clear g2 g5 g6
  go_enter Try.func12, Try.ntmps12
  go_wp2_with (first
    | (go_at_call 26; refine (CA.out _).mono ?_; rintro e w1 ⟨rfl, hb1⟩; have ht1 := ht.ext rOp_stays hb1; have hm1 := hm.ext rOp_stays hb1)
    | (go_at_call 30; have _t := tkB; refine (Big_no _ _ _ ht1 hs1).mono ?_; clear tkB; rintro e w2 ⟨rfl, rfl⟩)
    | (go_at_call 30; refine (Big_yes _ _ _ hm1 hs2).mono ?_; rintro e w2 ⟨rfl, rfl⟩)
    | fail)
  go_ret
  exact ⟨rfl, hb1⟩

set_option maxRecDepth 100000 in
set_option maxHeartbeats 1000000 in
theorem walk_long (v1 v2 v3 : Value) (LL : List (List Rec)) (torn more : List Rec) (w : World) (h : SliceOf 1 (rSlice 3 rOp) w v1 LL) (ht : SliceOf 3 rOp w v2 torn) (hm : SliceOf 3 rOp w v3 more) (q : Int) (_h1 : -9223372036854775808 ≤ q) (_h2 : q ≤ 9223372036854775807) (hs1 : SmallL torn) (hs2 : SmallL more) (hl : 10 < LL.length) :
    Calls Try.prog 12 #[v1, v2, v3, .int .i64 q] w fun e w' => e = .returned (.bool true) ∧ Below w.heap.size w w' := by
  have CA := Lib.hid alive22
  have tkB : True := trivial
  obtain ⟨A, n, c, xs, rfl, g1, g2, g3, g4, g5, g6⟩ := h
  unfold maxLen at g4
  clear g2 g5 g6
  have d1 : decide ((10 : Int) < n) = true := decide_eq_true (by omega)
  go_enter Try.func12, Try.ntmps12
  go_wp2_with (first
    | (go_at_call 26; refine (CA.out _).mono ?_; rintro e w1 ⟨rfl, hb1⟩; have ht1 := ht.ext rOp_stays hb1; have hm1 := hm.ext rOp_stays hb1)
    | (go_at_call 30; have _t := tkB; refine (Big_no _ _ _ ht1 hs1).mono ?_; clear tkB; rintro e w2 ⟨rfl, rfl⟩)
    | (go_at_call 30; refine (Big_no _ _ _ hm1 hs2).mono ?_; rintro e w2 ⟨rfl, rfl⟩)
    | fail)
  go_ret
  exact ⟨rfl, hb1⟩

set_option maxRecDepth 100000 in
set_option maxHeartbeats 1000000 in
theorem walk_neg (v1 v2 v3 : Value) (LL : List (List Rec)) (torn more : List Rec) (w : World) (h : SliceOf 1 (rSlice 3 rOp) w v1 LL) (ht : SliceOf 3 rOp w v2 torn) (hm : SliceOf 3 rOp w v3 more) (q : Int) (_h1 : -9223372036854775808 ≤ q) (_h2 : q ≤ 9223372036854775807) (hs1 : SmallL torn) (hs2 : SmallL more) (hl : LL.length ≤ 10) (hq : q < 0) :
    Calls Try.prog 12 #[v1, v2, v3, .int .i64 q] w fun e w' => e = .returned (.bool true) ∧ Below w.heap.size w w' := by
  have CA := Lib.hid alive22
  have tkB : True := trivial
  obtain ⟨A, n, c, xs, rfl, g1, g2, g3, g4, g5, g6⟩ := h
  unfold maxLen at g4
  clear g2 g5 g6
  have d1 : decide ((10 : Int) < n) = false := decide_eq_false (by omega)
  have d2 : decide (q < 0) = true := decide_eq_true hq
  go_enter Try.func12, Try.ntmps12
  go_wp2_with (first
    | (go_at_call 26; refine (CA.out _).mono ?_; rintro e w1 ⟨rfl, hb1⟩; have ht1 := ht.ext rOp_stays hb1; have hm1 := hm.ext rOp_stays hb1)
    | (go_at_call 30; have _t := tkB; refine (Big_no _ _ _ ht1 hs1).mono ?_; clear tkB; rintro e w2 ⟨rfl, rfl⟩)
    | (go_at_call 30; refine (Big_no _ _ _ hm1 hs2).mono ?_; rintro e w2 ⟨rfl, rfl⟩)
    | fail)
  go_ret
  exact ⟨rfl, hb1⟩

set_option maxRecDepth 100000 in
set_option maxHeartbeats 8000000 in
theorem walk (v1 v2 v3 : Value) (LL : List (List Rec)) (torn more : List Rec) (w : World) (h : SliceOf 1 (rSlice 3 rOp) w v1 LL) (ht : SliceOf 3 rOp w v2 torn) (hm : SliceOf 3 rOp w v3 more) (q : Nat) (hs1 : SmallL torn) (hs2 : SmallL more) (h10 : LL.length ≤ 10) :
    Calls Try.prog 12 #[v1, v2, v3, .int .i64 (q : Nat)] w fun e w' => e = .returned (.bool true) ∧ Below w.heap.size w w' := by
  have CA := Lib.hid alive22
  have tkB : True := trivial
  have tkR : True := trivial
  have hT := bytesTyR
  have hTU := outTy
  have HTM := Lib.hid (And.intro ht hm)
  have HLL := Lib.hid h
  obtain ⟨A3, n3, c3, _, rfl, _⟩ := id hm
  obtain ⟨A, n, c, xs, rfl, g1, g2, g3, g4, g5, g6⟩ := h
  unfold maxLen at g4
  have HX := Lib.hid (fun w' (hB : Below w.heap.size w w') k (hk : k < n) => out_at (g5.ext hB) g1 g2 g6 hk)
  have HL := Lib.hid g1
  rw [g1] at h10
  have HT := Lib.hid (show LL.take n = LL from List.take_of_length_le (by omega))
  have HXS := Lib.hid (show OutC w xs LL from ⟨by rw [g2, g1], g6⟩)
  have HG5 := Lib.hid g5
  have HXL := Lib.hid g2
  have d1 : decide ((10 : Int) < n) = false := decide_eq_false (by omega)
  have htb := batchB_bd hs1
  have hmb := batchB_bd hs2
  clear g1 g2 g5 g6
  go_enter Try.func12, Try.ntmps12
  go_wp2_with (first
    | (go_at_call 26; refine (CA.out _).mono ?_; rintro e w1 ⟨rfl, hb1⟩; have ht1 := ht.ext rOp_stays hb1; have hm1 := hm.ext rOp_stays hb1)
    | (go_at_call 30; have _t := tkB; refine (Big_no _ _ _ ht1 hs1).mono ?_; clear tkB; rintro e w2 ⟨rfl, rfl⟩)
    | (go_at_call 30; refine (Big_no _ _ _ hm1 hs2).mono ?_; rintro e w2 ⟨rfl, rfl⟩)
    | fail)
  clear ht1 hm1
  go_loopw [11, 12] (fun va i wr => ∃ k : Nat, k ≤ n ∧ i = .int .i64 k ∧ Below w.heap.size w wr ∧ wr.ownsRow w.heap.size 5 1 va (allBB (LL.take k)).length (bv (allBB (LL.take k))) ∧ ∀ l ∈ LL.take k, SmallL l) (fun _ i _ => n - (intOf i).toNat)
  case atStart => exact ⟨0, Nat.zero_le _, rfl, hb1, own_zero _ _, fun l hl => by simp at hl⟩
  case round =>
    obtain ⟨k, hk, rfl, hBr, hoa, hsm⟩ := hrel
    have hbd : (allBB (LL.take k)).length ≤ 420130 := by have := allBB_bd hsm; rw [List.length_take] at this; omega
    have HSM := Lib.hid hsm
    clear hsm
    by_cases hlt : k < n
    · obtain ⟨ad, vl, l, rfl, q0, hl, hsl⟩ := HX.out wr hBr k hlt
      have HSL := Lib.hid hsl
      have HAM := Lib.hid (all_more hl)
      have HTMK := Lib.hid (take_more' hl)
      clear hl hsl
      by_cases hs : SmallL l
      · have hbl := batchB_bd hs
        go_wp2_with (first
          | (go_at_call 30; refine (Big_no _ _ _ (HSL.out.ext rOp_stays hBr) hs).mono ?_; rintro e w2 ⟨rfl, rfl⟩)
          | (go_at_call 31; refine (RefBatch_ok _ l _ (HSL.out.ext rOp_stays hBr) hs).mono ?_; rintro e w3 ⟨v3, rfl, ho3, hb3⟩; have hB3 := below_step hBr hb3; have hoa3 := own_ext hoa hb3)
          | (at_builtin; refine wpList_append_bytes rfl (.tmp 66) (.tmp 67) _ rfl w.heap.size hT rfl hoa3 rfl (Bytes.own ho3) (by omega) hB3.size ?_; intro va4 w4 hoa4 hg4 hat4; have hB4 := below_own hB3 hoa3 (Nat.le_refl _) hg4 hB3.size)
          | fail)
        go_roundw
        case rel =>
          refine ⟨k + 1, by omega, by go_num, hB4, row_b hoa4 HAM.out, ?_⟩
          rw [HTMK.out]
          intro x hx
          rcases List.mem_append.1 hx with h1 | h1
          · exact HSM.out x h1
          · rw [List.mem_singleton.1 h1]; exact hs
        case measure => simp [intOf]; omega
      · go_wp2_with (first
          | (go_at_call 30; refine (Big_yes _ _ _ (HSL.out.ext rOp_stays hBr) hs).mono ?_; rintro e w2 ⟨rfl, rfl⟩)
          | fail)
        go_ret
        exact ⟨rfl, hBr⟩
    · obtain rfl : k = n := by omega
      rw [HT.out] at hoa hbd
      have hsm := HSM.out
      rw [HT.out] at hsm
      have HSA := Lib.hid hsm
      clear hsm
      obtain ⟨N, hN⟩ : ∃ N, N = (allBB LL).length := ⟨_, rfl⟩
      rw [← hN] at hoa hbd
      have HN := Lib.hid hN
      clear hN
      obtain ⟨AA, cA, eA⟩ := own_sl hoa
      subst eA
      go_upto_region 16 with (first
        | (go_at_call 31; have _t := tkR; refine (RefBatch_ok _ torn _ (HTM.out.1.ext rOp_stays hBr) hs1).mono ?_; clear tkR; rintro e w5 ⟨v5, rfl, ho5, hb5⟩; have hB5 := below_step hBr hb5; have hoa5 := own_ext hoa hb5)
        | (go_at_call 31; refine (RefBatch_ok _ more _ (HTM.out.2.ext rOp_stays hB5) hs2).mono ?_; rintro e w6 ⟨v6, rfl, ho6, hb6⟩; have hB6 := below_step hB5 hb6; have hoa6 := own_ext hoa5 hb6; have ho56 := own_ext ho5 hb6)
        | fail)
      obtain ⟨T, hTl⟩ : ∃ T, T = (batchB torn).length := ⟨_, rfl⟩
      have HT13 := Lib.hid (batchB_pos torn hs1)
      rw [← hTl] at ho56 htb HT13
      have HTLN := Lib.hid hTl
      clear hTl
      obtain ⟨At, ct, e5⟩ := own_sl ho56
      subst e5
      obtain ⟨M, hM⟩ : ∃ M, M = (batchB more).length := ⟨_, rfl⟩
      rw [← hM] at ho6 hmb
      have HM := Lib.hid hM
      clear hM
      obtain ⟨Am, cm, e6⟩ := own_sl ho6
      subst e6
      obtain ⟨cc, hcc⟩ : ∃ cc, cc = q % T := ⟨_, rfl⟩
      have hT0 := HT13.out
      have hcT : cc < T := by rw [hcc]; exact Nat.mod_lt q hT0
      have E1 : ((q : Int)).tmod (T : Int) = (cc : Nat) := by rw [hcc]; exact tmod_nat'
      have b0 : ((T : Int) == 0) = false := beq_eq_false_iff_ne.2 (by omega)
      have b0' : decide ((T : Int) = 0) = false := decide_eq_false (by omega)
      have hcap := own_cap ho56
      have hrun1 := cutw_h hT At T ct (kh := .i64) (hi' := (cc : Nat)) (hi := cc) rfl (by omega)
      obtain ⟨B, hBX, hBle⟩ : ∃ B, (∀ x : World, Below B w6.drew x → Below w6.drew.heap.size w6.drew x) ∧ B ≤ w6.drew.heap.size := ⟨w6.heap.size, fun _ h => h, Nat.le_refl _⟩
      have HBX := Lib.hid hBX
      have HAA := Lib.hid (fun w' (hb : Below B w6.drew w') => show Bytes w' (.slice AA N cA) (allBB LL) from Bytes.own (own_ext (own_drew hoa6) (hBX _ hb)))
      have HTT := Lib.hid (fun w' (hb : Below B w6.drew w') => show Bytes w' (.slice At cc ct) ((batchB torn).take cc) from bytes_head (Bytes.own (own_ext (own_drew ho56) (hBX _ hb))) (by omega))
      clear hBX
      have HTL := Lib.hid (show ((batchB torn).take cc).length = cc by rw [List.length_take, ← HTLN.out]; omega)
      have HRD := Lib.hid (show batches (allBB LL ++ (batchB torn).take cc) = (LL.map normL, N) by rw [read_torn HSA.out hs1 (by rw [← HTLN.out]; exact hcT), HN.out])
      have HLN := Lib.hid (show (allBB LL ++ (batchB torn).take cc).length ≤ 800000 by rw [List.length_append, HTL.out, ← HN.out]; omega)
      have hrun2 := cutw_h hT AA N cA (kh := .i64) (hi' := (N : Nat)) (hi := N) rfl (own_cap hoa)
      have HR2 := Lib.hid (show batches (allBB LL ++ batchB more) = ((LL ++ [more]).map normL, N + M) by have e : allBB (LL ++ [more]) = allBB LL ++ batchB more := (by rw [allBB_append]; simp [allBB]); rw [← e, read_whole (ok_snoc HSA.out hs2), e, List.length_append, HN.out, HM.out])
      have HSS := Lib.hid (same_map (LL := LL ++ [more]) (ok_snoc HSA.out hs2))
      have HL2 := Lib.hid (show (allBB LL ++ batchB more).length ≤ 800000 by rw [List.length_append, ← HN.out, ← HM.out]; omega)
      clear hcc
      refine wp_region_phase (by kernel_rfl) (by kernel_rfl) (by kernel_rfl) (Below B) (fun _ => Below.refl _ _) (fun _ _ _ h k => h.trans k) (S16 N T q cc cA ct AA At) (S16_stays _ _ _ _ _ _ _ _ _) (J16 B N (allBB LL) ((batchB torn).take cc))
        ⟨fun e => (by cases e), fun e => (by cases e)⟩ ?_ ?_
      · simp only [PhStep]
        refine ⟨?_, ?_, ?_, ?_, ?_, ?_, ?_, ?_, ?_, ?_, ?_, ?_, ?_, ?_, ?_, trivial⟩
        · intro L V w' hb hj hl hdo hcl hd
          clear hdo hcl
          clear hd
          refine ⟨?_⟩
          simp only [fill]
          go_wp2
          exact ⟨⟨rfl, rfl, Below.refl _ _, rfl⟩, (J16_far _ _ _ _ hj (by decide) (by decide))⟩
        · intro L V w' hb hj hl hdo hcl hd
          have hl8 : L 8 = false := Bool.eq_false_iff.2 fun e => by have := hcl 8 1 (by kernel_rfl) e; rw [this] at hl; cases hl
          have hbs := Nat.le_trans hBle hb.size
          clear hdo hcl
          simp only [DepFacts, S16, Region.binds, forall_const, and_true] at hd
          refine ⟨?_⟩
          simp only [fill, hd]
          clear hd
          simp only [Act.put, List.setIfInBounds_toArray, List.set_cons_zero, List.set_cons_succ]
          go_wp2_with (first | (at_builtin; refine wpList_append_bytes rfl (.const (.slice none 0 0)) (.tmp 80) _ rfl B hT (xs := []) rfl (own_zero _ _) rfl (HAA.out _ hb) (by rw [← HN.out]; omega) hbs ?_; intro v1 w1 ho1 hg1 hat1) | fail)
          refine ⟨⟨rfl, rfl, below_own (Below.refl _ _) (own_zero _ B) (Nat.le_refl _) hg1 hbs, trivial⟩, ?_⟩
          unfold J16
          rw [updL_same, updL_ne (by decide), upd_same, upd_ne (by decide), hl8]
          refine ⟨fun _ _ => ?_, fun e => (by cases e)⟩
          rw [Nat.zero_add, List.nil_append, ← HN.out] at ho1
          exact ho1
        · intro L V w' hb hj hl hdo hcl hd
          clear hdo hcl
          clear hd
          refine ⟨?_⟩
          simp only [fill]
          go_wp2
          exact ⟨⟨rfl, rfl, Below.refl _ _, rfl⟩, (J16_far _ _ _ _ hj (by decide) (by decide))⟩
        · intro L V w' hb hj hl hdo hcl hd
          clear hdo hcl
          clear hd
          refine ⟨?_⟩
          simp only [fill]
          go_wp2
          exact ⟨⟨rfl, rfl, Below.refl _ _, rfl⟩, (J16_far _ _ _ _ hj (by decide) (by decide))⟩
        · intro L V w' hb hj hl hdo hcl hd
          clear hdo hcl
          clear hd
          refine ⟨?_⟩
          simp only [fill]
          go_wp2
          exact ⟨⟨rfl, rfl, Below.refl _ _, rfl⟩, (J16_far _ _ _ _ hj (by decide) (by decide))⟩
        · intro L V w' hb hj hl hdo hcl hd
          clear hdo hcl
          simp only [DepFacts, S16, Region.binds, forall_const, and_true] at hd
          refine ⟨?_⟩
          simp only [fill, hd]
          clear hd
          go_wp2
          exact ⟨⟨rfl, rfl, Below.refl _ _, rfl⟩, (J16_far _ _ _ _ hj (by decide) (by decide))⟩
        · intro L V w' hb hj hl hdo hcl hd
          clear hdo hcl
          simp only [DepFacts, S16, Region.binds, forall_const, and_true] at hd
          refine ⟨?_⟩
          simp only [fill, hd]
          clear hd
          go_wp2
          exact ⟨⟨rfl, rfl, Below.refl _ _, rfl⟩, J16_far _ _ _ _ hj (by decide) (by decide)⟩
        · intro L V w' hb hj hl hdo hcl hd
          clear hdo hcl
          simp only [DepFacts, S16, Region.binds, forall_const, and_true] at hd
          refine ⟨?_⟩
          simp only [fill, hd]
          clear hd
          go_wp2
          exact ⟨⟨rfl, rfl, Below.refl _ _, rfl⟩, (J16_far _ _ _ _ hj (by decide) (by decide))⟩
        · intro L V w' hb hj hl hdo hcl hd
          have h1 : L 1 = true := hdo 1 (by kernel_rfl)
          have hoo := hj.1 h1 hl
          have hbs := Nat.le_trans hBle hb.size
          clear hdo hcl
          simp only [DepFacts, S16, Region.binds, forall_const, and_true] at hd
          refine ⟨?_⟩
          simp only [fill, hd]
          clear hd
          simp only [Act.put, List.setIfInBounds_toArray, List.set_cons_zero, List.set_cons_succ]
          go_wp2_with (first | (at_builtin; refine wpList_append_bytes rfl (.tmp 81) (.tmp 87) _ rfl B hT rfl hoo rfl (HTT.out _ hb) (by rw [HTL.out]; omega) hbs ?_; intro v8 w8 ho8 hg8 hat8) | fail)
          refine ⟨⟨rfl, rfl, below_own (Below.refl _ _) hoo (Nat.le_refl _) hg8 hbs, trivial⟩, ?_⟩
          unfold J16
          rw [updL_same, updL_ne (by decide), upd_same, upd_ne (by decide)]
          exact ⟨fun _ e => (by cases e), fun _ => row_c ho8 HN.out⟩
        · intro L V w' hb hj hl hdo hcl hd
          have h8 : L 8 = true := hdo 8 (by kernel_rfl)
          have hoo := hj.2 h8
          have hbs := Nat.le_trans hBle hb.size
          clear hdo hcl
          clear hd
          refine ⟨?_⟩
          simp only [fill]
          simp only [Act.put, List.setIfInBounds_toArray, List.set_cons_zero, List.set_cons_succ]
          go_wp2_with (first | (go_at_call 27; refine (Read_any _ _ _ (Bytes.own hoo) HLN.out).mono ?_; rintro e w9 ⟨v9, rfl, hs9, hb9⟩; rw [HRD.out]) | fail)
          refine ⟨⟨rfl, rfl, below_base hb9 hbs, v9, rfl⟩, ?_⟩
          unfold J16
          rw [updL_ne (by decide), updL_ne (by decide), upd_ne (by decide), upd_ne (by decide)]
          exact ⟨fun _ e => (by rw [h8] at e; cases e), fun _ => own_ext hoo hb9⟩
        · intro L V w' hb hj hl hdo hcl hd
          clear hdo hcl
          simp only [DepFacts, S16, Region.binds, forall_const, and_true] at hd
          obtain ⟨v', hd⟩ := hd
          refine ⟨?_⟩
          simp only [fill, hd]
          clear hd
          go_wp2
          exact ⟨⟨rfl, rfl, Below.refl _ _, v', rfl⟩, J16_far _ _ _ _ hj (by decide) (by decide)⟩
        · intro L V w' hb hj hl hdo hcl hd
          clear hdo hcl
          simp only [DepFacts, S16, Region.binds, forall_const, and_true] at hd
          obtain ⟨v', hd⟩ := hd
          refine ⟨?_⟩
          simp only [fill, hd]
          clear hd
          go_wp2
          exact ⟨⟨rfl, rfl, Below.refl _ _, trivial⟩, J16_far _ _ _ _ hj (by decide) (by decide)⟩
        · intro L V w' hb hj hl hdo hcl hd
          clear hdo hcl
          simp only [DepFacts, S16, Region.binds, forall_const, and_true, implies_true] at hd
          obtain ⟨v', hd⟩ := hd
          refine ⟨?_⟩
          simp only [fill, hd]
          clear hd
          go_wp2
          exact ⟨⟨rfl, rfl, Below.refl _ _, rfl⟩, J16_far _ _ _ _ hj (by decide) (by decide)⟩
        · intro L V w' hb hj hl hdo hcl hd
          clear hdo hcl
          clear hd
          refine ⟨?_⟩
          simp only [fill]
          go_wp2
          exact ⟨⟨rfl, rfl, Below.refl _ _, trivial⟩, J16_far _ _ _ _ hj (by decide) (by decide)⟩
        · intro L V w' hb hj hl hdo hcl hd
          clear hdo hcl
          simp only [DepFacts, S16, Region.binds, forall_const, and_true, true_and] at hd
          have h12 := hd.1
          clear hd
          refine ⟨?_⟩
          simp only [fill, h12]
          clear h12
          go_wp2
          exact ⟨⟨rfl, rfl, Below.refl _ _, rfl⟩, J16_far _ _ _ _ hj (by decide) (by decide)⟩
      · intro L V w10 hL hb10 hs10 hj10
        have h14 : V 14 = .int .i64 (N : Nat) := by
          simp only [SFacts, S16, and_true, true_and] at hs10
          exact hs10.2.2.2.2.2.2.2.2.2.2
        clear hj10 hL hs10
        have hbX := HBX.out _ hb10
        have hB10 := below_step (below_drew hB6) hbX
        have hoa10 := own_ext (own_drew hoa6) hbX
        have hom10 := own_ext (own_drew ho6) hbX
        clear hb10
        simp only [fill, h14]
        try simp only [Exit.then]
        go_simp
        have tkA : True := trivial
        go_upto_region 18 with (first
          | (at_builtin; have _t := tkA; refine wpList_append_bytes rfl (.const (.slice none 0 0)) (.tmp 95) _ rfl w10.heap.size hT (xs := []) rfl (own_zero _ _) rfl (Bytes.own hoa10) (by rw [← HN.out]; omega) (Nat.le_refl _) ?_; clear tkA; intro v11 w11 ho11 hg11 hat11; have hb11 := below_own (Below.refl w10.heap.size w10) (own_zero _ _) (Nat.le_refl _) hg11 (Nat.le_refl _); have hom11 := own_ext hom10 hb11; rw [Nat.zero_add, List.nil_append] at ho11)
          | (at_builtin; refine wpList_append_bytes rfl (.tmp 96) (.tmp 97) _ rfl w10.heap.size hT rfl ho11 rfl (Bytes.own hom11) (by rw [← HN.out, ← HM.out]; omega) hb11.size ?_; intro v12 w12 ho12 hg12 hat12; have hb12 := below_own hb11 ho11 (Nat.le_refl _) hg12 hb11.size)
          | (go_at_call 27; refine (Read_any _ _ _ (Bytes.own (row_b ho12 rfl)) HL2.out).mono ?_; rintro e w13 ⟨v13, rfl, hs13, hb13⟩; rw [HR2.out] at hs13 ⊢; have hB13 := below_step hB10 (below_step hb12 hb13))
          | fail)
        have hone := OutC.one HXS.out
        have hout13 : OutC w13 xs LL := OutC.ext HXS.out hB13
        have hx13 := HG5.out.ext hB13
        have tkH : True := trivial
        have wS := Lib.hid (show wrap64 ((N : Int) + M) = N + M from IntWalk.wrap64_in _ (by omega))
        have wS2 := Lib.hid (show IntKind.i64.wrap ((N : Int) + M) = N + M from IntWalk.i64_in _ (by omega))
        go_wp2_with (first | (have _t := tkH; refine hold_out ?_; clear tkH) | fail)
        refine hold_in ?_
        try simp only [Act.put, List.setIfInBounds_toArray, List.set_cons_zero, List.set_cons_succ]
        refine wpList_pure_want (by rfl) (.int .i64 (N : Nat)) (fun K hK => by go_simp; exact hK) ?_
        try simp only [Act.put, List.setIfInBounds_toArray, List.set_cons_zero, List.set_cons_succ]
        refine wpList_pure_want (by rfl) (.bool true) (fun K hK => by go_simp; exact hK) ?_
        try simp only [Act.put, List.setIfInBounds_toArray, List.set_cons_zero, List.set_cons_succ]
        refine wpList_move_want (by rfl) (.tmp 105) rfl ?_
        try simp only [Act.put, List.setIfInBounds_toArray, List.set_cons_zero, List.set_cons_succ]
        refine wpList_move_want (by rfl) (.tmp 23) rfl ?_
        try simp only [Act.put, List.setIfInBounds_toArray, List.set_cons_zero, List.set_cons_succ]
        refine wpList_move_want (by rfl) (.tmp 11) rfl ?_
        try simp only [Act.put, List.setIfInBounds_toArray, List.set_cons_zero, List.set_cons_succ]
        refine wpList_pure_want (by rfl) (.int .i64 (N : Nat)) (fun K hK => by go_simp; exact hK) ?_
        try simp only [Act.put, List.setIfInBounds_toArray, List.set_cons_zero, List.set_cons_succ]
        refine wpList_move_want (by rfl) (.tmp 18) rfl ?_
        try simp only [Act.put, List.setIfInBounds_toArray, List.set_cons_zero, List.set_cons_succ]
        refine wpList_pure_want (by rfl) (.int .i64 (M : Nat)) (fun K hK => by go_simp; exact hK) ?_
        try simp only [Act.put, List.setIfInBounds_toArray, List.set_cons_zero, List.set_cons_succ]
        refine wpList_pure_want (by rfl) (.int .i64 ((N : Int) + M)) (fun K hK => by go_simp; first | exact hK | (simp only [wS.out]; exact hK) | (simp only [wS2.out]; exact hK) | (rw [wS2.out]; exact hK)) ?_
        try simp only [Act.put, List.setIfInBounds_toArray, List.set_cons_zero, List.set_cons_succ]
        refine wpList_pure_want (by rfl) (.bool true) (fun K hK => by go_simp; exact hK) ?_
        try simp only [Act.put, List.setIfInBounds_toArray, List.set_cons_zero, List.set_cons_succ]
        refine wpList_pure_want (by rfl) (.bool true) (fun K hK => by go_simp; exact hK) ?_
        try simp only [Act.put, List.setIfInBounds_toArray, List.set_cons_zero, List.set_cons_succ]
        refine wpList_move_want (by rfl) (.tmp 114) rfl ?_
        try simp only [Act.put, List.setIfInBounds_toArray, List.set_cons_zero, List.set_cons_succ]
        refine wpList_move_want (by rfl) (.tmp 22) rfl ?_
        try simp only [Act.put, List.setIfInBounds_toArray, List.set_cons_zero, List.set_cons_succ]
        refine wpList_move_want (by rfl) (.tmp 0) rfl ?_
        try simp only [Act.put, List.setIfInBounds_toArray, List.set_cons_zero, List.set_cons_succ]
        refine wpList_append_rd_want (by rfl) (.const (.slice none 0 0)) (.tmp 117) _ rfl w13.heap.size _ _ 1 24 hTU (.slice none 0 0) 0 [] rfl (World.ownsRow_nil _ _ _ _) A _ c xs rfl HXL.out hx13 hone (by unfold maxLen; omega) (by omega) (Nat.le_refl _) ?_
        intro v14 w14 ho14 hg14 hat14
        rw [Nat.zero_add, List.nil_append] at ho14
        have hb14 : Below w13.heap.size w13 w14 := below_own (v := .slice none 0 0) (Below.refl _ _) (World.ownsRow_nil w13 w13.heap.size 5 1) (Nat.le_refl _) hg14 (Nat.le_refl _)
        try simp only [Act.put, List.setIfInBounds_toArray, List.set_cons_zero, List.set_cons_succ]
        refine wpList_move_want (by rfl) (.tmp 2) rfl ?_
        try simp only [Act.put, List.setIfInBounds_toArray, List.set_cons_zero, List.set_cons_succ]
        refine wpList_row_val_want (by rfl) (.tmp 119) rfl hTU (by decide) rfl rfl ?_
        intro w15 hx15 hb15 hl15
        have hb15' := below_step hb14 hb15
        have ho15 := own_ext ho14 hb15
        try simp only [Act.put, List.setIfInBounds_toArray, List.set_cons_zero, List.set_cons_succ]
        refine wpList_append_rd_want (by rfl) (.tmp 118) (.tmp 120) _ rfl w13.heap.size _ _ 1 24 hTU _ _ _ rfl ho15 (some ⟨w14.heap.size, 0, none⟩) 1 1 [.slice A3 n3 c3] rfl rfl hx15.rd (by intro u hu; rw [List.mem_singleton.1 hu]; rfl) (by unfold maxLen; omega) (by omega) hb15'.size ?_
        intro v16 w16 ho16 hg16 hat16
        have hb16 := below_own hb15' ho15 (Nat.le_refl _) hg16 hb15'.size
        have hB16 := below_step hB13 hb16
        have hs16 := out_row ho16 HL.out (OutC.ext hout13 hb16) (HTM.out.2.ext rOp_stays hB16)
        have hs3 := hs13.ext (rSlice_stays rOp_stays) hb16
        try simp only [Act.put, List.setIfInBounds_toArray, List.set_cons_zero, List.set_cons_succ]
        go_wp2_with (first
          | (go_at_call 29; refine (Batches_true _ _ _ _ _ hs3 hs16 HSS.out).mono ?_; rintro e w17 ⟨rfl, hb17⟩)
          | fail)
        go_ret
        exact ⟨rfl, below_step hB16 hb17⟩
open Go.ChangeShapes Go.WideShapes Go.ChangeAt

set_option maxRecDepth 100000 in
theorem lifted (os : Os) (started : os.Started) (H : Type) (enc : TypeId × Value → H) :
    ReturnsInHanded {} Try.checked os 12 .any (Rows.replayAppendsSpec.pre6 enc Try.prog Try.f12 Rows.replayAppendsRow.domain false) (Rows.replayAppendsSpec.post enc Try.prog Try.f12 false true false false) := by
  refine law_lift (C := Try.checked) (ts := [53, 49, 49, 3]) (tb := 4) (by kernel_rfl) started (by kernel_rfl) Try.func12
    (ChangeSpec.witness6 (enc := enc) (C := Try.checked) false ⟨#[], #[.slice none 0 0, .slice none 0 0, .slice none 0 0, .int .i64 0], []⟩ 8 (by kernel_rfl) (by kernel_rfl) (by kernel_rfl) (by kernel_rfl))
    (by kernel_rfl) (by kernel_rfl) (by kernel_rfl) (by kernel_rfl) Try.underlying4 rfl (fun ds h => by match ds, h with | [_, _, _, _], _ => rfl) ?_
  intro W vs hl h
  match vs, hl with
  | [v0, v1, v2, v3], _ =>
    have hl := h 0 _ v0 rfl rfl
    have ht := h 1 _ v1 rfl rfl
    have hm := h 2 _ v2 rfl rfl
    obtain ⟨q, rfl, hq⟩ := arg_int Try.underlying3 (h 3 _ v3 rfl rfl)
    obtain ⟨LL, hl'⟩ := arg_slice Try.underlying53 (by kernel_rfl) (opens_ops enc) hl
    obtain ⟨ts, ht'⟩ := arg_slice Try.underlying49 (by kernel_rfl) (opens_op enc) ht
    obtain ⟨ms, hm'⟩ := arg_slice Try.underlying49 (by kernel_rfl) (opens_op enc) hm
    have hqb := bounds_i64 hq
    by_cases hs1 : SmallL ts
    · by_cases hs2 : SmallL ms
      · by_cases h1 : 10 < LL.length
        · exact walk_long _ _ _ LL ts ms W hl' ht' hm' q hqb.1 hqb.2 hs1 hs2 h1
        · by_cases h0 : q < 0
          · exact walk_neg _ _ _ LL ts ms W hl' ht' hm' q hqb.1 hqb.2 hs1 hs2 (by omega) h0
          · obtain ⟨y, rfl⟩ : ∃ y : Nat, q = y := ⟨q.toNat, by omega⟩
            exact walk _ _ _ LL ts ms W hl' ht' hm' y hs1 hs2 (by omega)
      · exact walk_big2 _ _ _ LL ts ms W hl' ht' hm' q hqb.1 hqb.2 hs1 hs2
    · exact walk_big1 _ _ _ LL ts ms W hl' ht' hm' q hqb.1 hqb.2 hs1

theorem over : Rows.replayAppendsRow.holds Try.pinned (OpenSpec.ofChange Rows.replayAppendsSpec) :=
  OpenClaim.holds_of_wide 12 Try.f12 rfl rfl rfl rfl rfl rfl rfl ⟨rfl, rfl, rfl, rfl, rfl⟩ rfl rfl rfl rfl rfl (by kernel_rfl) Try.func12 (by kernel_rfl)
    (of_decide_eq_true (by kernel_rfl)) (by unfold Func.isWrapper; first | (rw [if_pos (by decide +kernel)]; kernel_rfl) | (rw [if_neg (by decide +kernel)]; exact ⟨rfl, rfl⟩))
    (fun os started H enc _ => lifted os started H enc)
end Go.Proofs.Ytmaaejicfpfcdaa.ReplayAppends
namespace Go.Proofs.Ytmaaejicfpfcdaa
theorem replayAppends_holds : Rows.ReplayAppendsSaid := ReplayAppends.over
#print axioms replayAppends_holds
end Go.Proofs.Ytmaaejicfpfcdaa
