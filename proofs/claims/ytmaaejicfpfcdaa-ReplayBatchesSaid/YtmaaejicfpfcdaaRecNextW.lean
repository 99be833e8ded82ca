/- The walk of record.Next. -/
import Derived.Test.YtmaaejicfpfcdaaRecRead2
namespace Go.Mun
open Go Go.RowKit Go.Proofs

theorem read_all (v : Value) (b : List UInt8) (w : World) (hb : Bytes w v b) (hpos : 0 < b.length) (hn : b.length ≤ 16842758) :
    Calls Try.prog 44 #[v] w (ReadPost w b) := by
  obtain ⟨A, n, c, rfl, h1, h2, h3, h4⟩ := id hb
  by_cases c2 : b.getD 0 0 = 2
  · exact read_two A n c b w hb (by omega) (by omega) c2
  · exact read_one A n c b w hb (by omega) (by omega) c2

/-- what 'Next' answers -/
def NextPost (w : World) (b : List UInt8) (e : Ending) (w' : World) : Prop :=
  Below w.heap.size w w' ∧ ∃ cs, e = .returned (.tuple #[.agg cs, .int .i64 ((nextB b).2.1 : Nat), .int .i64 (nextB b).2.2]) ∧ RecO w.heap.size w' (nextB b).1 cs
theorem nextPost_of {w w' : World} {b : List UInt8} {r : Rec} {k : Nat} {E : Int} {cs : Array Value} (h : Hid (nextB b = (r, k, E))) (hb : Below w.heap.size w w') (hc : RecO w.heap.size w' r cs) {k' : Int} (hk : k' = k) :
    NextPost w b (.returned (.tuple #[.agg cs, .int .i64 k', .int .i64 E])) w' := by
  have h' := h.out
  subst hk
  exact ⟨hb, cs, by rw [h'], by rw [h']; exact hc⟩

/-- What each operation of the region writes. -/
def SN8 (A A4 A8 : Option Addr) (n c k s : Nat) (x : Int) (d : Bool) : Nat → Value → World → Prop
  | 0, v, _ => v = .slice A n c
  | 1, v, _ => v = .slice A4 (n - 4) (c - 4)
  | 2, v, _ => v = .int .i64 (s : Int)
  | 3, v, _ => v = .slice A n c
  | 4, v, _ => v = .int .i64 (k : Int)
  | 5, v, _ => v = .int .i64 (8 + (k : Int))
  | 6, v, _ => v = .slice A8 k (c - 8)
  | 7, v, w => IsRow w v [.slice A8 k (c - 8)]
  | 8, v, _ => v = .int .i64 x
  | 9, v, _ => v = .bool d
  | _, v, _ => v = .bool d
theorem SN8_stays {A A4 A8 : Option Addr} {n c k s : Nat} {x : Int} {d : Bool} : ∀ i v (wa wb : World), Below wa.heap.size wa wb → SN8 A A4 A8 n c k s x d i v wa → SN8 A A4 A8 n c k s x d i v wb
  | 0, _, _, _, _, h => h
  | 1, _, _, _, _, h => h
  | 2, _, _, _, _, h => h
  | 3, _, _, _, _, h => h
  | 4, _, _, _, _, h => h
  | 5, _, _, _, _, h => h
  | 6, _, _, _, _, h => h
  | 7, _, _, _, hb, h => IsRow.ext h hb
  | 8, _, _, _, _, h => h
  | 9, _, _, _, _, h => h
  | _ + 10, _, _, _, _, h => h

set_option maxRecDepth 100000 in
set_option maxHeartbeats 400000 in
theorem Next_any (v : Value) (b : List UInt8) (w : World) (hbb : Bytes w v b) :
    Calls Try.prog 23 #[v] w (NextPost w b) := by
  have hT := bytesTyR
  have hR := recTy
  have zR := zRec_info
  obtain ⟨A, n, c, rfl, h1, h2, h3, h4⟩ := id hbb
  clear h4
  unfold maxLen at h3
  by_cases c4 : n < 4
  · have HR := Lib.hid (show nextB b = (.zero, 0, 6) from by unfold nextB; rw [if_pos (by omega)])
    have d4 : decide ((n : Int) < 4) = true := decide_eq_true (by omega)
    have tok1 : True := trivial
    go_enter Try.func23, Try.ntmps23
    go_wp2_with (first
      | (have _t := tok1; refine wpList_alloc_blk rfl 36 rfl zR ?_; clear tok1; intro w1 hx1 hB hl1)
      | (refine wpList_store_all rfl 36 (.tmp 2) (.tmp 11) rfl #[.int .i64 0, .bool false, .slice none 0 0, .slice none 0 0, .int .i64 0] hx1 hR rfl rfl (by rfl) (by rfl) ?_; intro w9 hx9 hg9; have hB9 := below_blk hB hB.size hg9 (Nat.le_refl _))
      | fail)
    exact bodyPost_ret (results_blk3 (q := 3) (r := 4) rfl hR hx9 rfl rfl rfl) rfl (nextPost_of HR hB9 (RecO.zero _ _) rfl)
  have d4 : decide ((n : Int) < 4) = false := decide_eq_false (by omega)
  have hlt := numB_lt b
  by_cases ck : numB b = 0 ∨ 16842758 < numB b
  · have HR := Lib.hid (show nextB b = (.zero, 0, 4) from by unfold nextB; rw [if_neg (by omega), if_pos ck])
    generalize hN : numB b = k at *
    have HN := Lib.hid hN
    clear hN
    by_cases ck0 : k = 0
    · subst ck0
      have tok1 : True := trivial
      go_enter Try.func23, Try.ntmps23
      go_wp2_with (first | (have _t := tok1; refine wpList_alloc_blk rfl 36 rfl zR ?_; clear tok1; intro w1 hx1 hB hl1) | fail)
      refine (number_c (hbb.ext hB) (by omega)).mono ?_
      rintro e wq ⟨rfl, hbq⟩
      rw [HN.out]
      replace hx1 := hx1.ext hbq
      replace hB := below_step hB hbq
      go_wp2_with (first | (refine wpList_store_all rfl 36 (.tmp 2) (.tmp 21) rfl #[.int .i64 0, .bool false, .slice none 0 0, .slice none 0 0, .int .i64 0] hx1 hR rfl rfl (by rfl) (by rfl) ?_; intro w9 hx9 hg9; have hB9 := below_blk hB hB.size hg9 (Nat.le_refl _)) | fail)
      exact bodyPost_ret (results_blk3 (q := 3) (r := 4) rfl hR hx9 rfl rfl rfl) rfl (nextPost_of HR hB9 (RecO.zero _ _) rfl)
    · have dk0 : ((k : Int) == 0) = false := by rw [beq_eq_false_iff_ne]; omega
      have dk1 : decide ((16842758 : Int) < (k : Int)) = true := decide_eq_true (by omega)
      clear ck
      have tok1 : True := trivial
      go_enter Try.func23, Try.ntmps23
      go_wp2_with (first | (have _t := tok1; refine wpList_alloc_blk rfl 36 rfl zR ?_; clear tok1; intro w1 hx1 hB hl1) | fail)
      refine (number_c (hbb.ext hB) (by omega)).mono ?_
      rintro e wq ⟨rfl, hbq⟩
      rw [HN.out]
      replace hx1 := hx1.ext hbq
      replace hB := below_step hB hbq
      go_wp2_with (first | (refine wpList_store_all rfl 36 (.tmp 2) (.tmp 21) rfl #[.int .i64 0, .bool false, .slice none 0 0, .slice none 0 0, .int .i64 0] hx1 hR rfl rfl (by rfl) (by rfl) ?_; intro w9 hx9 hg9; have hB9 := below_blk hB hB.size hg9 (Nat.le_refl _)) | fail)
      exact bodyPost_ret (results_blk3 (q := 3) (r := 4) rfl hR hx9 rfl rfl rfl) rfl (nextPost_of HR hB9 (RecO.zero _ _) rfl)
  have dk0 : (((numB b : Nat) : Int) == 0) = false := by rw [beq_eq_false_iff_ne]; omega
  have dk1 : decide ((16842758 : Int) < ((numB b : Nat) : Int)) = false := decide_eq_false (by omega)
  by_cases cl : n < 8 + numB b
  · have HR := Lib.hid (show nextB b = (.zero, 0, 6) from by unfold nextB; rw [if_neg (by omega), if_neg ck, if_pos (by omega)])
    have dl : decide ((n : Int) < 8 + ((numB b : Nat) : Int)) = true := decide_eq_true (by omega)
    generalize hN : numB b = k at *
    have HN := Lib.hid hN
    clear hN
    have tok1 : True := trivial
    go_enter Try.func23, Try.ntmps23
    go_wp2_with (first | (have _t := tok1; refine wpList_alloc_blk rfl 36 rfl zR ?_; clear tok1; intro w1 hx1 hB hl1) | fail)
    refine (number_c (hbb.ext hB) (by omega)).mono ?_
    rintro e wq ⟨rfl, hbq⟩
    rw [HN.out]
    replace hx1 := hx1.ext hbq
    replace hB := below_step hB hbq
    go_wp2_with (first | (refine wpList_store_all rfl 36 (.tmp 2) (.tmp 28) rfl #[.int .i64 0, .bool false, .slice none 0 0, .slice none 0 0, .int .i64 0] hx1 hR rfl rfl (by rfl) (by rfl) ?_; intro w9 hx9 hg9; have hB9 := below_blk hB hB.size hg9 (Nat.le_refl _)) | fail)
    exact bodyPost_ret (results_blk3 (q := 3) (r := 4) rfl hR hx9 rfl rfl rfl) rfl (nextPost_of HR hB9 (RecO.zero _ _) rfl)
  have dl : decide ((n : Int) < 8 + ((numB b : Nat) : Int)) = false := decide_eq_false (by omega)
  obtain ⟨A4, hr4, hb4⟩ := cut_l hT A n c (kl := .i64) (lo' := 4) (lo := 4) rfl (by omega)
  obtain ⟨A8, hr8, hb8⟩ := cut_lh hT A n c (kl := .i64) (kh := .i64) (lo' := 8) (lo := 8) (hi' := 8 + (numB b : Nat)) (hi := 8 + numB b) rfl (by omega) (by omega) (by omega)
  rw [show 8 + numB b - 8 = numB b from by omega] at hr8 hb8
  have HR := Lib.hid (show nextB b = if (numB (b.drop 4) : Int) ≠ crcSum ((b.take (8 + numB b)).drop 8) then ((.zero, 0, 5) : Rec × Nat × Int)
    else readT (readB ((b.take (8 + numB b)).drop 8)) (numB b) from by unfold nextB; rw [if_neg (by omega), if_neg ck, if_neg (by omega)])
  have HB4 := Lib.hid hb4
  have HB8 := Lib.hid hb8
  clear hb4 hb8
  generalize hN : numB b = k at *
  have HN := Lib.hid hN
  clear hN
  have hsl := numB_lt (b.drop 4)
  generalize hS : numB (b.drop 4) = s at *
  have HS := Lib.hid hS
  clear hS
  have hxl := crcSum_bd ((b.take (8 + k)).drop 8)
  generalize hX : crcSum ((b.take (8 + k)).drop 8) = x at *
  have HX := Lib.hid hX
  clear hX
  obtain ⟨d, hD⟩ : ∃ d : Bool, d = ((s : Int) != x) := ⟨_, rfl⟩
  have HD := Lib.hid hD
  clear hD
  have hwr : IntKind.i64.wrap (8 + (k : Int)) = 8 + (k : Int) := IntWalk.i64_in _ (by omega)
  have tok1 : True := trivial
  go_enter Try.func23, Try.ntmps23
  go_wp2_with (first | (have _t := tok1; refine wpList_alloc_blk rfl 36 rfl zR ?_; clear tok1; intro w1 hx1 hB hl1) | fail)
  refine (number_c (hbb.ext hB) (by omega)).mono ?_
  rintro e wq ⟨rfl, hbq⟩
  rw [HN.out]
  replace hx1 := hx1.ext hbq
  replace hB := below_step hB hbq
  go_wp2_with fail
  refine wp_region_loose (by kernel_rfl) (by kernel_rfl) (by kernel_rfl) rfl (fun w w' => Below w.heap.size w w') (fun w => Below.refl _ _) (fun x y z h1 h2 => below_step h1 h2) (SN8 A A4 A8 n c k s x d) SN8_stays ?_ ?_
  · refine ⟨?_, ?_, ?_, ?_, ?_, ?_, ?_, ?_, ?_, ?_, ?_, trivial⟩
    · intro V wx fr hb hd hs hdef hsz
      have s0 : fr.tmps[0]? = some (.slice A n c) := hs.1
      clear hs
      refine ⟨?_⟩
      go_wp2
      exact op_post hsz (Below.refl _ _) (by simp [SN8])
    · intro V wx fr hb hd hs hdef hsz
      simp only [DepFacts, SN8, Region.binds, forall_const, and_true] at hd
      have d0 := hd
      clear hd
      have s30 : fr.tmps[30]? = some (V 0) := hs.1
      clear hs
      refine ⟨?_⟩
      go_wp2
      exact op_post hsz (Below.refl _ _) (by simp [SN8])
    · intro V wx fr hb hd hs hdef hsz
      simp only [DepFacts, SN8, Region.binds, forall_const, and_true] at hd
      have d1 := hd
      clear hd
      have s31 : fr.tmps[31]? = some (V 1) := hs.1
      rw [d1] at s31
      clear d1
      clear hs
      refine ⟨?_⟩
      go_wp2_with fail
      refine (number_c (HB4.out _ b (hbb.ext (below_step hB (below_step (Below.refl _ _).drew hb)))) (by rw [List.length_drop]; omega)).mono ?_
      rintro e w2 ⟨rfl, hb2⟩
      rw [HS.out]
      go_wp2
      exact op_post hsz hb2 rfl
    · intro V wx fr hb hd hs hdef hsz
      have s0 : fr.tmps[0]? = some (.slice A n c) := hs.1
      clear hs
      refine ⟨?_⟩
      go_wp2
      exact op_post hsz (Below.refl _ _) (by simp [SN8])
    · intro V wx fr hb hd hs hdef hsz
      have s5 : fr.tmps[5]? = some (.int .i64 (k : Int)) := hs.1
      clear hs
      refine ⟨?_⟩
      go_wp2
      exact op_post hsz (Below.refl _ _) (by simp [SN8])
    · intro V wx fr hb hd hs hdef hsz
      simp only [DepFacts, SN8, Region.binds, forall_const, and_true] at hd
      have d4 := hd
      clear hd
      have s34 : fr.tmps[34]? = some (V 4) := hs.1
      clear hs
      refine ⟨?_⟩
      go_wp2
      exact op_post hsz (Below.refl _ _) (by simp [SN8])
    · intro V wx fr hb hd hs hdef hsz
      simp only [DepFacts, SN8, Region.binds, forall_const, and_true] at hd
      have d3 := hd.1
      have d5 := hd.2
      clear hd
      have s33 : fr.tmps[33]? = some (V 3) := hs.1
      have s35 : fr.tmps[35]? = some (V 5) := hs.2.1
      clear hs
      refine ⟨?_⟩
      go_wp2
      exact op_post hsz (Below.refl _ _) (by simp [SN8])
    · intro V wx fr hb hd hs hdef hsz
      simp only [DepFacts, SN8, Region.binds, forall_const, and_true] at hd
      have d6 := hd
      clear hd
      have s36 : fr.tmps[36]? = some (V 6) := hs.1
      rw [d6] at s36
      clear d6
      clear hs
      refine ⟨?_⟩
      go_wp2
      exact op_post hsz ((Below.refl _ _).alloc (Nat.le_refl _) _) ⟨_, rfl, Rd.new _ #[_] _ _⟩
    · intro V wx fr hb hd hs hdef hsz
      simp only [DepFacts, SN8, Region.binds, forall_const, and_true] at hd
      have d7 := hd.1
      clear hd
      have s37 : fr.tmps[37]? = some (V 7) := hs.1
      obtain ⟨g, e7, hr7⟩ := d7
      rw [e7] at s37
      clear e7
      clear hs
      refine ⟨?_⟩
      go_wp2_with fail
      refine (Sum_any (some g) 1 1 [(b.take (8 + k)).drop 8] [.slice A8 k (c - 8)] _ rfl rfl (by omega) hr7 fun i hi => ?_).mono ?_
      · obtain rfl : i = 0 := by omega
        exact HB8.out _ b (hbb.ext (below_step hB (below_step (Below.refl _ _).drew hb))) (by omega)
      rintro e w2 ⟨rfl, rfl⟩
      rw [show ([(b.take (8 + k)).drop 8] : List (List UInt8)).flatten = (b.take (8 + k)).drop 8 from by simp, HX.out]
      go_wp2
      exact op_post hsz (Below.refl _ _) rfl
    · intro V wx fr hb hd hs hdef hsz
      simp only [DepFacts, SN8, Region.binds, forall_const, and_true] at hd
      have d2 := hd.1
      have d8 := hd.2
      clear hd
      have s32 : fr.tmps[32]? = some (V 2) := hs.1
      have s38 : fr.tmps[38]? = some (V 8) := hs.2.1
      rw [d2] at s32
      rw [d8] at s38
      clear d2 d8
      clear hs
      refine ⟨?_⟩
      go_wp2
      exact op_post hsz (Below.refl _ _) (by rw [← HD.out]; rfl)
    · intro V wx fr hb hd hs hdef hsz
      simp only [DepFacts, SN8, Region.binds, forall_const, and_true] at hd
      have d9 := hd.1
      clear hd
      have s39 : fr.tmps[39]? = some (V 9) := hs.1
      clear hs
      refine ⟨?_⟩
      go_wp2
      exact op_post hsz (Below.refl _ _) (by simp [SN8])
  · intro V wy hb hs
    have h10 := hs.2.2.2.2.2.2.2.2.2.2.1
    clear hs
    replace h10 : V 10 = .bool d := h10
    replace hb := below_step (Below.refl _ _).drew hb
    replace hx1 := hx1.ext hb
    replace hB := below_step hB hb
    simp only [fill, h10]
    clear h10 hb
    simp only [Exit.then]
    go_simp
    by_cases cs : (s : Int) = x
    · have hd : d = false := by rw [HD.out, bne_eq_false_iff_eq]; exact cs
      subst hd
      have hlen : ((b.take (8 + k)).drop 8).length = k := by rw [List.length_drop, List.length_take]; omega
      have HR' := Lib.hid (show nextB b = readT (readB ((b.take (8 + k)).drop 8)) k from by rw [HR.out, if_neg (by simpa using cs)])
      clear cs
      go_wp2_with fail
      have hgq := hx1.lt
      refine (read_all _ _ _ (HB8.out _ b (hbb.ext hB) (by omega)) (by omega) (by omega)).mono ?_
      rintro e w3 ⟨hb3, cs, rfl, hcs⟩
      replace hx1 := hx1.ext hb3
      replace hB := below_step hB hb3
      cases hrd : readB ((b.take (8 + k)).drop 8) with
      | none =>
        have HR2 := Lib.hid (show nextB b = (.zero, 0, 4) from by rw [HR'.out, hrd]; rfl)
        rw [hrd] at hcs
        replace hcs : RecO _ w3 Rec.zero cs := hcs
        obtain ⟨kv, vv, rfl, hkv, hvv⟩ := hcs
        clear hrd
        have hoK := own_one hkv
        have hoV := own_one hvv
        have hg1 := hx1.lt
        have tok6 : True := trivial
        have tok7 : True := trivial
        go_wp2_with (first
          | (have _t := tok6; refine wpList_alloc_blk rfl 36 rfl zR ?_; clear tok6; intro w4 hx4 hb4 hl4; replace hx1 := hx1.ext hb4; have hB4 := below_step hB hb4; have hb34 := hb4)
          | (have _t := tok7; refine wpList_store_all rfl 36 (.tmp 6) (.tmp 47) rfl #[.int .i64 Rec.zero.kind, .bool Rec.zero.del, kv, vv, .int .i64 Rec.zero.n] hx4 hR rfl (by simp only [oneAll, hoK, hoV]; rfl) (by rfl) (by rfl) ?_; clear tok7; intro w5 hx5 hg5; replace hx1 := hx1.grown hg5 (by simp; omega); have hB5 := below_blk hB4 hB4.size hg5 hB.size; have hb35 := below_blk hb34 hb34.size hg5 (Nat.le_refl _))
          | (refine wpList_store_all rfl 36 (.tmp 2) (.tmp 51) rfl #[.int .i64 0, .bool false, .slice none 0 0, .slice none 0 0, .int .i64 0] hx1 hR rfl rfl (by rfl) (by rfl) ?_; intro w9 hx9 hg9; have hB9 := below_blk hB5 hB5.size hg9 (Nat.le_refl _))
          | fail)
        exact bodyPost_ret (results_blk3 (q := 3) (r := 4) rfl hR hx9 rfl rfl rfl) rfl (nextPost_of HR2 hB9 (RecO.zero _ _) rfl)
      | some r =>
        have HR2 := Lib.hid (show nextB b = (r, 8 + k, 0) from by rw [HR'.out, hrd]; rfl)
        rw [hrd] at hcs
        replace hcs : RecO _ w3 r cs := hcs
        obtain ⟨kv, vv, rfl, hkv, hvv⟩ := hcs
        clear hrd
        have hoK := own_one hkv
        have hoV := own_one hvv
        have hg1 := hx1.lt
        have tok6 : True := trivial
        have tok7 : True := trivial
        have tok8 : True := trivial
        go_wp2_with (first
          | (have _t := tok6; refine wpList_alloc_blk rfl 36 rfl zR ?_; clear tok6; intro w4 hx4 hb4 hl4; replace hx1 := hx1.ext hb4; have hB4 := below_step hB hb4; have hb34 := hb4)
          | (have _t := tok7; refine wpList_store_all rfl 36 (.tmp 6) (.tmp 47) rfl #[.int .i64 r.kind, .bool r.del, kv, vv, .int .i64 r.n] hx4 hR rfl (by simp only [oneAll, hoK, hoV]; rfl) (by rfl) (by rfl) ?_; clear tok7; intro w5 hx5 hg5; replace hx1 := hx1.grown hg5 (by simp; omega); have hB5 := below_blk hB4 hB4.size hg5 hB.size; have hb35 := below_blk hb34 hb34.size hg5 (Nat.le_refl _))
          | (have _t := tok8; refine wpList_load_blk rfl 36 (.tmp 6) rfl hx5 hR rfl ?_; clear tok8)
          | (refine wpList_store_all rfl 36 (.tmp 2) (.tmp 52) rfl #[.int .i64 r.kind, .bool r.del, kv, vv, .int .i64 r.n] hx1 hR rfl (by simp only [oneAll, hoK, hoV]; rfl) (by rfl) (by rfl) ?_; intro w9 hx9 hg9; have hB9 := below_blk hB5 hB5.size hg9 (Nat.le_refl _))
          | fail)
        exact bodyPost_ret (results_blk3 (q := 3) (r := 4) rfl hR hx9 rfl rfl rfl) rfl (nextPost_of HR2 hB9 (RecO.base ⟨_, _, rfl, own_kept (own_ext hkv hb35) hg9 hgq, own_kept (own_ext hvv hb35) hg9 hgq⟩ (Nat.le_of_lt hgq)) (by omega))
    · have hd : d = true := by rw [HD.out, bne_iff_ne]; exact cs
      subst hd
      have HR' := Lib.hid (show nextB b = (.zero, 0, 5) from by rw [HR.out, if_pos cs])
      clear cs
      go_wp2_with (first | (refine wpList_store_all rfl 36 (.tmp 2) (.tmp 40) rfl #[.int .i64 0, .bool false, .slice none 0 0, .slice none 0 0, .int .i64 0] hx1 hR rfl rfl (by rfl) (by rfl) ?_; intro w9 hx9 hg9; have hB9 := below_blk hB hB.size hg9 (Nat.le_refl _)) | fail)
      exact bodyPost_ret (results_blk3 (q := 3) (r := 4) rfl hR hx9 rfl rfl rfl) rfl (nextPost_of HR' hB9 (RecO.zero _ _) rfl)
end Go.Mun
