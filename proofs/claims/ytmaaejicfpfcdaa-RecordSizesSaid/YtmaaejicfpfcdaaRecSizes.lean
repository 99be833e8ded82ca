/- 'munimentslaw21.RecordSizes' answers true at every input, and leaves what it was given. No condition. -/
import Derived.Test.YtmaaejicfpfcdaaRecAlive
import Derived.Test.YtmaaejicfpfcdaaRegion
import Derived.Test.YtmaaejicfpfcdaaLaw
import Derived.Test.YtmaaejicfpfcdaaRows
namespace Go.Proofs.Ytmaaejicfpfcdaa.RecordSizes
open Go Go.RowKit Go.Mun Go.Proofs

theorem bytes_one {w : World} {v : Value} {l : List UInt8} (h : Bytes w v l) : ∃ A n c, v = .slice A n c := by
  obtain ⟨A, n, c, e, _⟩ := h
  exact ⟨A, n, c, e⟩

/-- What each operation of the region writes. -/
def S4 (k m : Nat) (del : Bool) (L : Nat) (E : Int) : Nat → Value → World → Prop
  | 0, v, _ => v = .bool del
  | 1, v, _ => v = .int .i64 (k : Int)
  | 2, v, w => Bytes w v (List.replicate k 0)
  | 3, v, _ => v = .int .i64 (m : Int)
  | 4, v, w => Bytes w v (List.replicate m 0)
  | 5, v, w => ∃ v2 v4, v = .agg #[.bool del, v2, v4] ∧ Bytes w v2 (List.replicate k 0) ∧ Bytes w v4 (List.replicate m 0)
  | 6, v, w => ∃ v2 v4, v = .agg #[.int .i64 1, .bool del, v2, v4, .int .i64 0] ∧ Bytes w v2 (List.replicate k 0) ∧ Bytes w v4 (List.replicate m 0)
  | 7, v, _ => ∃ A c, v = .tuple #[.slice A L c, .int .i64 E]
  | 8, v, _ => ∃ A c, v = .tuple #[.slice A L c, .int .i64 E]
  | 9, v, _ => ∃ A c, v = .slice A L c
  | 10, v, _ => v = .int .i64 E
  | 11, v, _ => ∃ A c, v = .slice A L c
  | _, v, _ => v = .int .i64 E
theorem S4_stays {k m : Nat} {del : Bool} {L : Nat} {E : Int} : ∀ i v (wa wb : World), Below wa.heap.size wa wb → S4 k m del L E i v wa → S4 k m del L E i v wb
  | 0, _, _, _, _, h => h
  | 1, _, _, _, _, h => h
  | 2, _, _, _, hb, h => Bytes.ext h hb
  | 3, _, _, _, _, h => h
  | 4, _, _, _, hb, h => Bytes.ext h hb
  | 5, _, _, _, hb, h => let ⟨a, b, e, h1, h2⟩ := h; ⟨a, b, e, h1.ext hb, h2.ext hb⟩
  | 6, _, _, _, hb, h => let ⟨a, b, e, h1, h2⟩ := h; ⟨a, b, e, h1.ext hb, h2.ext hb⟩
  | 7, _, _, _, _, h => h
  | 8, _, _, _, _, h => h
  | 9, _, _, _, _, h => h
  | 10, _, _, _, _, h => h
  | 11, _, _, _, _, h => h
  | _ + 12, _, _, _, _, h => h

set_option maxRecDepth 100000 in
set_option maxHeartbeats 1000000 in
theorem walk (k' m' : Int) (del : Bool) (w : World) (hk1 : -9223372036854775808 ≤ k') (hk2 : k' ≤ 9223372036854775807) (hm1 : -9223372036854775808 ≤ m') (hm2 : m' ≤ 9223372036854775807) :
    Calls Try.prog 5 #[.int .i64 k', .int .i64 m', .bool del] w fun e w' => e = .returned (.bool true) ∧ Below w.heap.size w w' := by
  by_cases c1 : k' < 0
  · have d1 : decide (k' < 0) = true := by simp; omega
    go_enter Try.func5, Try.ntmps5
    go_wp2_with fail
    refine (alive21 w).mono ?_
    rintro e w1 ⟨rfl, hb1⟩
    go_wp2
    go_ret
    exact ⟨rfl, hb1⟩
  have d1 : decide (k' < 0) = false := by simp; omega
  by_cases c2 : 65538 < k'
  · have d2 : decide (65538 < k') = true := by simp; omega
    go_enter Try.func5, Try.ntmps5
    go_wp2_with fail
    refine (alive21 w).mono ?_
    rintro e w1 ⟨rfl, hb1⟩
    go_wp2
    go_ret
    exact ⟨rfl, hb1⟩
  have d2 : decide (65538 < k') = false := by simp; omega
  by_cases c3 : m' < 0
  · have d3 : decide (m' < 0) = true := by simp; omega
    go_enter Try.func5, Try.ntmps5
    go_wp2_with fail
    refine (alive21 w).mono ?_
    rintro e w1 ⟨rfl, hb1⟩
    go_wp2
    go_ret
    exact ⟨rfl, hb1⟩
  have d3 : decide (m' < 0) = false := by simp; omega
  by_cases c4 : 3000 < m'
  · have d4 : decide (3000 < m') = true := by simp; omega
    go_enter Try.func5, Try.ntmps5
    go_wp2_with fail
    refine (alive21 w).mono ?_
    rintro e w1 ⟨rfl, hb1⟩
    go_wp2
    go_ret
    exact ⟨rfl, hb1⟩
  have d4 : decide (3000 < m') = false := by simp; omega
  obtain ⟨k, rfl⟩ := Int.eq_ofNat_of_zero_le (by omega : 0 ≤ k')
  obtain ⟨m, rfl⟩ := Int.eq_ofNat_of_zero_le (by omega : 0 ≤ m')
  have hT := bytesTyR
  obtain ⟨L, E, HL⟩ : ∃ (L : Nat) (E : Int), Hid (((Rec.err ⟨1, del, List.replicate k 0, List.replicate m 0, 0⟩ ≠ 0) → L = 0) ∧ ((Rec.err ⟨1, del, List.replicate k 0, List.replicate m 0, 0⟩ = 0) → L = (Rec.bytes ⟨1, del, List.replicate k 0, List.replicate m 0, 0⟩).length) ∧ E = Rec.err ⟨1, del, List.replicate k 0, List.replicate m 0, 0⟩) := by
    by_cases he : Rec.err ⟨1, del, List.replicate k 0, List.replicate m 0, 0⟩ = 0
    · exact ⟨_, _, fun h => absurd he h, fun _ => rfl, rfl⟩
    · exact ⟨0, _, fun _ => rfl, fun h => absurd h he, rfl⟩
  go_enter Try.func5, Try.ntmps5
  go_wp2_with fail
  refine (alive21 w).mono ?_
  rintro e w1 ⟨rfl, hb1⟩
  go_wp2_with fail
  refine wp_region_loose (by kernel_rfl) (by kernel_rfl) (by kernel_rfl) rfl (fun w w' => Below w.heap.size w w') (fun w => Below.refl _ _) (fun x y z h1 h2 => below_step h1 h2) (S4 k m del L E) S4_stays ?_ ?_
  · refine ⟨?_, ?_, ?_, ?_, ?_, ?_, ?_, ?_, ?_, ?_, ?_, ?_, ?_, trivial⟩
    · intro V wx b hb hd hs hdef hsz
      have s2 : b.tmps[2]? = some (.bool del) := hs.1
      clear hs
      refine ⟨?_⟩
      go_wp2
      exact op_post hsz (Below.refl _ _) rfl
    · intro V wx b hb hd hs hdef hsz
      have s0 : b.tmps[0]? = some (.int .i64 (k : Int)) := hs.1
      clear hs
      refine ⟨?_⟩
      go_wp2
      exact op_post hsz (Below.refl _ _) rfl
    · intro V wx b hb hd hs hdef hsz
      simp only [DepFacts, S4, Region.binds, forall_const, and_true] at hd
      have d1 := hd.1
      clear hd
      have s33 : b.tmps[33]? = some (V 1) := hs.1
      rw [d1] at s33
      clear hs
      refine ⟨?_⟩
      refine wpList_make_bytes rfl (.tmp 33) (.tmp 33) _ rfl wx.heap.size hT (kl := .i64) (kc := .i64) (n := k) (by simp [Act.eval, s33]) (by simp [Act.eval, s33]) (by omega) (Nat.le_refl _) fun v w2 ho hb2 => ?_
      refine wpList_nil ?_
      exact op_put hdef hsz hb2 (Bytes.own ho)
    · intro V wx b hb hd hs hdef hsz
      have s1 : b.tmps[1]? = some (.int .i64 (m : Int)) := hs.1
      clear hs
      refine ⟨?_⟩
      go_wp2
      exact op_post hsz (Below.refl _ _) rfl
    · intro V wx b hb hd hs hdef hsz
      simp only [DepFacts, S4, Region.binds, forall_const, and_true] at hd
      have d3 := hd.1
      clear hd
      have s35 : b.tmps[35]? = some (V 3) := hs.1
      rw [d3] at s35
      clear hs
      refine ⟨?_⟩
      refine wpList_make_bytes rfl (.tmp 35) (.tmp 35) _ rfl wx.heap.size hT (kl := .i64) (kc := .i64) (n := m) (by simp [Act.eval, s35]) (by simp [Act.eval, s35]) (by omega) (Nat.le_refl _) fun v w2 ho hb2 => ?_
      refine wpList_nil ?_
      exact op_put hdef hsz hb2 (Bytes.own ho)
    · intro V wx b hb hd hs hdef hsz
      simp only [DepFacts, S4, Region.binds, forall_const, and_true] at hd
      have d0 := hd.1
      have d2 := hd.2.1
      have d4 := hd.2.2
      clear hd
      have s32 : b.tmps[32]? = some (V 0) := hs.1
      have s34 : b.tmps[34]? = some (V 2) := hs.2.1
      have s36 : b.tmps[36]? = some (V 4) := hs.2.2.1
      have g2 := d2
      have g4 := d4
      obtain ⟨A2, n2, c2, e2, hb2⟩ := d2
      obtain ⟨A4, n4, c4, e4, hb4⟩ := d4
      rw [d0] at s32
      rw [e2] at s34
      rw [e4] at s36
      rw [e2] at g2
      rw [e4] at g4
      clear d0 e2 e4
      clear hs
      refine ⟨?_⟩
      go_wp2
      exact op_post hsz (Below.refl _ _) ⟨_, _, rfl, g2, g4⟩
    · intro V wx b hb hd hs hdef hsz
      simp only [DepFacts, S4, Region.binds, forall_const, and_true] at hd
      have d5 := hd
      clear hd
      have s37 : b.tmps[37]? = some (V 5) := hs.1
      obtain ⟨v2, v4, e5, g2, g4⟩ := d5
      rw [e5] at s37
      clear e5
      clear hs
      refine ⟨?_⟩
      go_wp2
      exact op_post hsz (Below.refl _ _) ⟨_, _, rfl, g2, g4⟩
    · intro V wx b hb hd hs hdef hsz
      simp only [DepFacts, S4, Region.binds, forall_const, and_true] at hd
      have d6 := hd
      clear hd
      have s38 : b.tmps[38]? = some (V 6) := hs.1
      obtain ⟨v2, v4, e6, g2, g4⟩ := d6
      rw [e6] at s38
      clear e6
      clear hs
      refine ⟨?_⟩
      go_wp2_with fail
      refine (Pack_any ⟨1, del, List.replicate k 0, List.replicate m 0, 0⟩ v2 v4 _ g2 g4 (by simp) (by simp)).mono ?_
      rintro e w2 ⟨hb2, ⟨h0, rfl⟩ | ⟨h0, v, rfl, ho⟩⟩
      · go_wp2
        exact op_post hsz hb2 ⟨none, 0, by rw [HL.out.1 h0, HL.out.2.2]⟩
      · obtain ⟨A, c, rfl, _, _⟩ := own_slice ho
        go_wp2
        exact op_post hsz hb2 ⟨A, c, by rw [HL.out.2.1 h0, HL.out.2.2, h0]⟩
    · intro V wx b hb hd hs hdef hsz
      simp only [DepFacts, S4, Region.binds, forall_const, and_true] at hd
      have d7 := hd
      clear hd
      have s39 : b.tmps[39]? = some (V 7) := hs.1
      obtain ⟨A, c, e7⟩ := d7
      rw [e7] at s39
      clear e7
      clear hs
      refine ⟨?_⟩
      go_wp2
      exact op_post hsz (Below.refl _ _) ⟨A, c, rfl⟩
    · intro V wx b hb hd hs hdef hsz
      simp only [DepFacts, S4, Region.binds, forall_const, and_true] at hd
      have d8 := hd
      clear hd
      have s31 : b.tmps[31]? = some (V 8) := hs.1
      obtain ⟨A, c, e7⟩ := d8
      rw [e7] at s31
      clear e7
      clear hs
      refine ⟨?_⟩
      go_wp2
      exact op_post hsz (Below.refl _ _) ⟨A, c, rfl⟩
    · intro V wx b hb hd hs hdef hsz
      simp only [DepFacts, S4, Region.binds, forall_const, and_true] at hd
      have d8 := hd.1
      clear hd
      have s31 : b.tmps[31]? = some (V 8) := hs.1
      obtain ⟨A, c, e7⟩ := d8
      rw [e7] at s31
      clear e7
      clear hs
      refine ⟨?_⟩
      go_wp2
      exact op_post hsz (Below.refl _ _) rfl
    · intro V wx b hb hd hs hdef hsz
      simp only [DepFacts, S4, Region.binds, forall_const, and_true] at hd
      have d9 := hd.1
      clear hd
      have s40 : b.tmps[40]? = some (V 9) := hs.1
      obtain ⟨A, c, e7⟩ := d9
      rw [e7] at s40
      clear e7
      clear hs
      refine ⟨?_⟩
      go_wp2
      exact op_post hsz (Below.refl _ _) ⟨A, c, rfl⟩
    · intro V wx b hb hd hs hdef hsz
      simp only [DepFacts, S4, Region.binds, forall_const, and_true] at hd
      have d10 := hd.1
      clear hd
      have s41 : b.tmps[41]? = some (V 10) := hs.1
      rw [d10] at s41
      clear d10
      clear hs
      refine ⟨?_⟩
      go_wp2
      exact op_post hsz (Below.refl _ _) rfl
  · intro V wy hb hs
    have h11 := hs.2.2.2.2.2.2.2.2.2.2.2.1
    have h12 := hs.2.2.2.2.2.2.2.2.2.2.2.2.1
    clear hs
    replace h12 : V 12 = .int .i64 E := h12
    obtain ⟨A, c, h11⟩ : ∃ A c, V 11 = .slice A L c := h11
    have hB := below_step hb1.drew hb
    simp only [fill, h11, h12]
    clear h11 h12
    by_cases hbig : 65536 < k
    · have hE : E = 3 := HL.out.2.2.trans (err_long isEnd_one rfl (.inl (by simpa using hbig)))
      have hL : L = 0 := HL.out.1 (by rw [← HL.out.2.2, hE]; omega)
      subst hE
      subst hL
      have d5 : decide ((65536 : Int) < k) = true := by simp; omega
      go_wp2_with (go_at_call 21; refine (num21 _ _).mono ?_; rintro e w' ⟨rfl, rfl⟩)
      go_ret
      exact ⟨rfl, hB⟩
    · have hE : E = 0 := HL.out.2.2.trans (err_fits isEnd_one rfl (by simp; omega))
      have hL : L = (Rec.bytes ⟨1, del, List.replicate k 0, List.replicate m 0, 0⟩).length := HL.out.2.1 (by rw [← HL.out.2.2, hE])
      have hL' : L = 14 + k + (if del then 0 else m) := by
        rw [hL, bytes_length]
        cases del
        · rw [body_set_length isEnd_one]; simp; omega
        · rw [body_del_length isEnd_one]; simp; omega
      clear hL
      have d5 : decide ((65536 : Int) < k) = false := by simp; omega
      subst hE
      cases del
      · simp only [Bool.false_eq_true, if_false] at hL'
        subst hL'
        go_wp2_with (go_at_call 21; refine (num21 _ _).mono ?_; rintro e w' ⟨rfl, rfl⟩)
        go_ret
        exact ⟨rfl, hB⟩
      · simp only [if_true, Nat.add_zero] at hL'
        subst hL'
        go_wp2_with (go_at_call 21; refine (num21 _ _).mono ?_; rintro e w' ⟨rfl, rfl⟩)
        go_ret
        exact ⟨rfl, hB⟩
open Go.ChangeShapes Go.WideShapes Go.ChangeAt

set_option maxRecDepth 100000 in
theorem lifted (os : Os) (started : os.Started) (H : Type) (enc : TypeId × Value → H) :
    ReturnsInHanded {} Try.checked os 5 .any (Rows.recordSizesSpec.pre6 enc Try.prog Try.f5 Rows.recordSizesRow.domain false) (Rows.recordSizesSpec.post enc Try.prog Try.f5 false true false false) := by
  refine law_lift (C := Try.checked) (ts := [3, 3, 4]) (tb := 4) (by kernel_rfl) started (by kernel_rfl) Try.func5
    (ChangeSpec.witness6 (enc := enc) (C := Try.checked) false ⟨#[], #[.int .i64 0, .int .i64 0, .bool false], []⟩ 8 (by kernel_rfl) (by kernel_rfl) (by kernel_rfl) (by kernel_rfl))
    (by kernel_rfl) (by kernel_rfl) (by kernel_rfl) (by kernel_rfl) Try.underlying4 rfl (fun ds h => by match ds, h with | [_, _, _], _ => rfl) ?_
  intro W vs hl h
  match vs, hl with
  | [v0, v1, v2], _ =>
    obtain ⟨k, rfl, hk⟩ := arg_int Try.underlying3 (h 0 _ v0 rfl rfl)
    obtain ⟨m, rfl, hm⟩ := arg_int Try.underlying3 (h 1 _ v1 rfl rfl)
    obtain ⟨del, rfl⟩ := arg_bool Try.underlying4 (h 2 _ v2 rfl rfl)
    have hk := bounds_i64 hk
    have hm := bounds_i64 hm
    exact walk k m del W hk.1 hk.2 hm.1 hm.2

theorem over : Rows.recordSizesRow.holds Try.pinned (OpenSpec.ofChange Rows.recordSizesSpec) :=
  OpenClaim.holds_of_wide 5 Try.f5 rfl rfl rfl rfl rfl rfl rfl ⟨rfl, rfl, rfl, rfl, rfl⟩ rfl rfl rfl rfl rfl (by kernel_rfl) Try.func5 (by kernel_rfl)
    (of_decide_eq_true (by kernel_rfl)) (by unfold Func.isWrapper; first | (rw [if_pos (by decide +kernel)]; kernel_rfl) | (rw [if_neg (by decide +kernel)]; exact ⟨rfl, rfl⟩))
    (fun os started H enc _ => lifted os started H enc)
end Go.Proofs.Ytmaaejicfpfcdaa.RecordSizes
namespace Go.Proofs.Ytmaaejicfpfcdaa
theorem recordSizes_holds : Rows.RecordSizesSaid := RecordSizes.over
#print axioms recordSizes_holds
end Go.Proofs.Ytmaaejicfpfcdaa

