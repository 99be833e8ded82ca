/- The walks of record.read and record.Next. -/
import Derived.Test.YtmaaejicfpfcdaaRecRead
import Derived.Outline
namespace Go.Mun
open Go Go.RowKit Go.Proofs

theorem recTy : AggTy Try.prog 36 5 := ⟨⟨_, Try.underlying36, rfl⟩, by kernel_rfl⟩
theorem zRec_info : (Try.prog.info? 36).bind (·.zero) = some (.agg #[.int .i64 0, .bool false, .slice none 0 0, .slice none 0 0, .int .i64 0]) := by kernel_rfl

/-- a record in five cells, whose bytes lie in rows of the call's own -/
def RecO (base : Nat) (w : World) (r : Rec) (cs : Array Value) : Prop := ∃ kv vv, cs = #[.int .i64 r.kind, .bool r.del, kv, vv, .int .i64 r.n] ∧
  w.ownsRow base 5 1 kv r.key.length (bv r.key) ∧ w.ownsRow base 5 1 vv r.value.length (bv r.value)
theorem own_nil (w : World) (base : Nat) : w.ownsRow base 5 1 (.slice none 0 0) (List.length ([] : List UInt8)) (bv []) := ⟨rfl, .inl ⟨rfl, rfl⟩⟩
theorem RecO.zero (base : Nat) (w : World) : RecO base w .zero #[.int .i64 0, .bool false, .slice none 0 0, .slice none 0 0, .int .i64 0] := ⟨_, _, rfl, own_nil _ _, own_nil _ _⟩
theorem RecO.ext {base : Nat} {w w' : World} {r : Rec} {cs : Array Value} (h : RecO base w r cs) (hb : Below w.heap.size w w') : RecO base w' r cs := by
  obtain ⟨a, b, e, h1, h2⟩ := h
  exact ⟨a, b, e, own_ext h1 hb, own_ext h2 hb⟩
theorem RecO.kept {base g : Nat} {w w' : World} {r : Rec} {cs : Array Value} (h : RecO base w r cs) (hg : w.grownBy w' (some g)) (hlt : g < base) : RecO base w' r cs := by
  obtain ⟨a, b, e, h1, h2⟩ := h
  exact ⟨a, b, e, own_kept h1 hg hlt, own_kept h2 hg hlt⟩
theorem RecO.base {base base' : Nat} {w : World} {r : Rec} {cs : Array Value} (h : RecO base w r cs) (hb : base' ≤ base) : RecO base' w r cs := by
  obtain ⟨a, b, e, h1, h2⟩ := h
  exact ⟨a, b, e, own_base h1 hb, own_base h2 hb⟩
/-- what 'read' answers -/
def ReadPost (w : World) (b : List UInt8) (e : Ending) (w' : World) : Prop :=
  Below w.heap.size w w' ∧ ∃ cs, e = .returned (.tuple #[.agg cs, .bool (readB b).isSome]) ∧ RecO w.heap.size w' ((readB b).getD .zero) cs
theorem readPost_none {w w' : World} {b : List UInt8} (h : Hid (readB b = none)) (hb : Below w.heap.size w w') :
    ReadPost w b (.returned (.tuple #[.agg #[.int .i64 0, .bool false, .slice none 0 0, .slice none 0 0, .int .i64 0], .bool false])) w' := by
  have h' := h.out
  refine ⟨hb, _, by rw [h']; rfl, ?_⟩
  rw [h']
  exact RecO.zero _ _
theorem readPost_some {w w' : World} {b : List UInt8} {r : Rec} {cs : Array Value} (h : Hid (readB b = some r)) (hb : Below w.heap.size w w') (hc : RecO w.heap.size w' r cs) :
    ReadPost w b (.returned (.tuple #[.agg cs, .bool true])) w' := by
  have h' := h.out
  refine ⟨hb, _, by rw [h']; rfl, ?_⟩
  rw [h']
  exact hc

set_option maxRecDepth 100000 in
set_option maxHeartbeats 2000000 in
theorem read_two (A : Option Addr) (n c : Nat) (b : List UInt8) (w : World) (hb : Bytes w (.slice A n c) b) (hpos : 0 < n) (hn : n ≤ 16842758) (c2 : b.getD 0 0 = 2) :
    Calls Try.prog 44 #[.slice A n c] w (ReadPost w b) := by
  have hT := bytesTyR
  have hR := recTy
  have zR := zRec_info
  obtain ⟨A', n', c', e, h1, h2, h3, h4⟩ := id hb
  cases e
  unfold maxLen at h3
  obtain ⟨ad, rfl, g0⟩ := h4.byte (j := 0) (by omega)
  rw [add_zero'] at g0
  have e0 : b.getD 0 0 = b[0] := by rw [List.getD_eq_getElem?_getD, List.getElem?_eq_getElem]; rfl
  have e2 : b[0].toNat = 2 := by rw [← e0, c2]; rfl
  by_cases c5 : n = 5
  · subst c5
    obtain ⟨A1, hr1, hb1⟩ := cut_l hT (some ad) 5 c (kl := .i64) (lo' := 1) (lo := 1) rfl (by omega)
    have HB1 := Lib.hid hb1
    clear hb1
    rw [e2] at g0
    clear e0 h4 e2
    by_cases cm : 2147483647 < numB (b.drop 1)
    · have HR := Lib.hid (show readB b = none from by unfold readB; rw [if_pos c2, if_pos (.inr cm)])
      have dm : decide ((2147483647 : Int) < (numB (b.drop 1) : Nat)) = true := decide_eq_true (by omega)
      clear c2
      generalize hN : numB (b.drop 1) = k at *
      have HN := Lib.hid hN
      clear hN
      have tok1 : True := trivial
      go_enter Try.func44, Try.ntmps44
      go_wp2_with (first | (have _t := tok1; refine wpList_alloc_blk rfl 36 rfl zR ?_; clear tok1; intro w1 hx1 hB hl1; have g1 := cell_ext hB g0; clear g0) | fail)
      refine (number_c (HB1.out _ b (hb.ext hB)) (by rw [List.length_drop]; omega)).mono ?_
      rintro e wq ⟨rfl, hbq⟩
      rw [HN.out]
      replace hx1 := hx1.ext hbq
      replace hB := below_step hB hbq
      go_wp2_with (first | (refine wpList_store_all rfl 36 (.tmp 2) (.tmp 21) rfl #[.int .i64 0, .bool false, .slice none 0 0, .slice none 0 0, .int .i64 0] hx1 hR rfl rfl (by rfl) (by rfl) ?_; intro w9 hx9 hg9; have hB9 := below_blk hB (hB).size hg9 (Nat.le_refl _)) | fail)
      refine bodyPost_ret (results_blk2 (q := 3) rfl hR hx9 rfl rfl) rfl (readPost_none HR hB9)
    · have HR := Lib.hid (show readB b = some ⟨2, false, [], [], (numB (b.drop 1) : Nat)⟩ from by unfold readB; rw [if_pos c2, if_neg (by omega)])
      have dm : decide ((2147483647 : Int) < (numB (b.drop 1) : Nat)) = false := decide_eq_false (by omega)
      clear c2
      generalize hN : numB (b.drop 1) = k at *
      have HN := Lib.hid hN
      clear hN
      have tok1 : True := trivial
      go_enter Try.func44, Try.ntmps44
      go_wp2_with (first | (have _t := tok1; refine wpList_alloc_blk rfl 36 rfl zR ?_; clear tok1; intro w1 hx1 hB hl1; have g1 := cell_ext hB g0; clear g0) | fail)
      refine (number_c (HB1.out _ b (hb.ext hB)) (by rw [List.length_drop]; omega)).mono ?_
      rintro e wq ⟨rfl, hbq⟩
      rw [HN.out]
      replace hx1 := hx1.ext hbq
      replace hB := below_step hB hbq
      go_wp2_with fail
      refine (number_c (HB1.out _ b (hb.ext hB)) (by rw [List.length_drop]; omega)).mono ?_
      rintro e wq2 ⟨rfl, hbq2⟩
      rw [HN.out]
      replace hx1 := hx1.ext hbq2
      replace hB := below_step hB hbq2
      go_wp2_with (first | (refine wpList_store_all rfl 36 (.tmp 2) (.tmp 25) rfl #[.int .i64 2, .bool false, .slice none 0 0, .slice none 0 0, .int .i64 (k : Int)] hx1 hR rfl rfl (by rfl) (by rfl) ?_; intro w9 hx9 hg9; have hB9 := below_blk hB (hB).size hg9 (Nat.le_refl _)) | fail)
      exact bodyPost_ret (results_blk2 (q := 3) rfl hR hx9 rfl rfl) rfl (readPost_some HR hB9 ⟨_, _, rfl, own_nil _ _, own_nil _ _⟩)
  · have HR := Lib.hid (show readB b = none from by unfold readB; rw [if_pos c2, if_pos (.inl (by omega))])
    have d5 : ((n : Int) != 5) = true := by rw [bne_iff_ne]; omega
    rw [e2] at g0
    clear e0 h4 e2 c2
    have tok1 : True := trivial
    go_enter Try.func44, Try.ntmps44
    go_wp2_with (first | (have _t := tok1; refine wpList_alloc_blk rfl 36 rfl zR ?_; clear tok1; intro w1 hx1 hB hl1; have g1 := cell_ext hB g0; clear g0) | (refine wpList_store_all rfl 36 (.tmp 2) (.tmp 21) rfl #[.int .i64 0, .bool false, .slice none 0 0, .slice none 0 0, .int .i64 0] hx1 hR rfl rfl (by rfl) (by rfl) ?_; intro w9 hx9 hg9; have hB9 := below_blk hB (hB).size hg9 (Nat.le_refl _)) | fail)
    refine bodyPost_ret (results_blk2 (q := 3) rfl hR hx9 rfl rfl) rfl (readPost_none HR hB9)
set_option maxRecDepth 100000 in
set_option maxHeartbeats 4000000 in
theorem read_one (A : Option Addr) (n c : Nat) (b : List UInt8) (w : World) (hb : Bytes w (.slice A n c) b) (hpos : 0 < n) (hn : n ≤ 16842758) (c2 : b.getD 0 0 ≠ 2) :
    Calls Try.prog 44 #[.slice A n c] w (ReadPost w b) := by
  have hT := bytesTyR
  have hR := recTy
  have zR := zRec_info
  obtain ⟨A', n', c', e, h1, h2, h3, h4⟩ := id hb
  cases e
  unfold maxLen at h3
  obtain ⟨ad, rfl, g0⟩ := h4.byte (j := 0) (by omega)
  rw [add_zero'] at g0
  have e0 : b.getD 0 0 = b[0] := by rw [List.getD_eq_getElem?_getD, List.getElem?_eq_getElem]; rfl
  have hx0 : b[0].toNat ≠ 2 := fun e => c2 (by rw [e0]; exact UInt8.toNat_inj.1 e)
  have u2 : ((b[0].toNat : Int) == 2) = false := by rw [beq_eq_false_iff_ne]; omega
  by_cases c1 : b.getD 0 0 = 1
  · have e1 : b[0].toNat = 1 := by rw [← e0, c1]; rfl
    rw [e1] at g0
    clear e0 e1 hx0 u2
    by_cases c6 : n < 6
    · have HR := Lib.hid (show readB b = none from by unfold readB; rw [if_neg c2, if_pos (.inr (.inl (by omega)))])
      have d6 : decide ((n : Int) < 6) = true := decide_eq_true (by omega)
      clear c1 c2 h4
      have tok1 : True := trivial
      go_enter Try.func44, Try.ntmps44
      go_wp2_with (first | (have _t := tok1; refine wpList_alloc_blk rfl 36 rfl zR ?_; clear tok1; intro w1 hx1 hB hl1; have g0' := cell_ext hB g0; clear g0) | (refine wpList_store_all rfl 36 (.tmp 2) (.tmp 41) rfl #[.int .i64 0, .bool false, .slice none 0 0, .slice none 0 0, .int .i64 0] hx1 hR rfl rfl (by rfl) (by rfl) ?_; intro w9 hx9 hg9; have hB9 := below_blk hB hB.size hg9 (Nat.le_refl _)) | fail)
      refine bodyPost_ret (results_blk2 (q := 3) rfl hR hx9 rfl rfl) rfl (readPost_none HR hB9)
    · have d6 : decide ((n : Int) < 6) = false := decide_eq_false (by omega)
      obtain ⟨_, e, g1⟩ := h4.byte (j := 1) (by omega)
      cases e
      replace g1 : w.cell? ⟨ad.block, ad.off + 1, none⟩ = _ := g1
      have g1n : (1 : Int) < (n : Int) := by omega
      have e1 : b.getD 1 0 = b[1] := by rw [List.getD_eq_getElem?_getD, List.getElem?_eq_getElem]; rfl
      rw [← e1] at g1
      clear h4 e1
      by_cases cb : 1 < (b.getD 1 0).toNat
      · have HR := Lib.hid (show readB b = none from by unfold readB; rw [if_neg c2, if_pos (.inr (.inr cb))])
        have db : decide ((1 : Int) < ((b.getD 1 0).toNat : Int)) = true := decide_eq_true (by omega)
        clear c1 c2
        generalize (b.getD 1 0).toNat = x1 at *
        have tok1 : True := trivial
        go_enter Try.func44, Try.ntmps44
        go_wp2_with (first | (have _t := tok1; refine wpList_alloc_blk rfl 36 rfl zR ?_; clear tok1; intro w1 hx1 hB hl1; have g0' := cell_ext hB g0; clear g0; have g1' := cell_ext hB g1; clear g1) | (refine wpList_store_all rfl 36 (.tmp 2) (.tmp 41) rfl #[.int .i64 0, .bool false, .slice none 0 0, .slice none 0 0, .int .i64 0] hx1 hR rfl rfl (by rfl) (by rfl) ?_; intro w9 hx9 hg9; have hB9 := below_blk hB hB.size hg9 (Nat.le_refl _)) | fail)
        refine bodyPost_ret (results_blk2 (q := 3) rfl hR hx9 rfl rfl) rfl (readPost_none HR hB9)
      · have hnot : ¬ (b.getD 0 0 ≠ 1 ∨ b.length < 6 ∨ 1 < (b.getD 1 0).toNat) := by
          rintro (e | e | e)
          · exact e c1
          · omega
          · exact cb e
        obtain ⟨A2, hr2, hb2⟩ := cut_l hT (some ad) n c (kl := .i64) (lo' := 2) (lo := 2) rfl (by omega)
        have HB2 := Lib.hid hb2
        clear hb2
        by_cases ck : 65536 < numB (b.drop 2) ∨ n < numB (b.drop 2) + 6
        · have HR := Lib.hid (show readB b = none from by unfold readB; rw [if_neg c2, if_neg hnot, if_pos (by omega)])
          have db : decide ((1 : Int) < ((b.getD 1 0).toNat : Int)) = false := decide_eq_false (by omega)
          clear c1 c2 hnot
          generalize hN : numB (b.drop 2) = k at *
          have HN := Lib.hid hN
          clear hN
          generalize (b.getD 1 0).toNat = x1 at *
          by_cases ck1 : 65536 < k
          · have dk : decide ((65536 : Int) < (k : Int)) = true := decide_eq_true (by omega)
            clear ck
            have tok1 : True := trivial
            go_enter Try.func44, Try.ntmps44
            go_wp2_with (first | (have _t := tok1; refine wpList_alloc_blk rfl 36 rfl zR ?_; clear tok1; intro w1 hx1 hB hl1; have g0' := cell_ext hB g0; clear g0; have g1' := cell_ext hB g1; clear g1) | fail)
            refine (number_c (HB2.out _ b (hb.ext hB)) (by rw [List.length_drop]; omega)).mono ?_
            rintro e wq ⟨rfl, hbq⟩
            rw [HN.out]
            replace hx1 := hx1.ext hbq
            replace hB := below_step hB hbq
            replace g0' := cell_ext hbq g0'
            replace g1' := cell_ext hbq g1'
            go_wp2_with (first | (refine wpList_store_all rfl 36 (.tmp 2) (.tmp 54) rfl #[.int .i64 0, .bool false, .slice none 0 0, .slice none 0 0, .int .i64 0] hx1 hR rfl rfl (by rfl) (by rfl) ?_; intro w9 hx9 hg9; have hB9 := below_blk hB hB.size hg9 (Nat.le_refl _)) | fail)
            refine bodyPost_ret (results_blk2 (q := 3) rfl hR hx9 rfl rfl) rfl (readPost_none HR hB9)
          · have dk : decide ((65536 : Int) < (k : Int)) = false := decide_eq_false (by omega)
            have dk2 : decide ((n : Int) - 6 < (k : Int)) = true := decide_eq_true (by omega)
            clear ck
            have tok1 : True := trivial
            go_enter Try.func44, Try.ntmps44
            go_wp2_with (first | (have _t := tok1; refine wpList_alloc_blk rfl 36 rfl zR ?_; clear tok1; intro w1 hx1 hB hl1; have g0' := cell_ext hB g0; clear g0; have g1' := cell_ext hB g1; clear g1) | fail)
            refine (number_c (HB2.out _ b (hb.ext hB)) (by rw [List.length_drop]; omega)).mono ?_
            rintro e wq ⟨rfl, hbq⟩
            rw [HN.out]
            replace hx1 := hx1.ext hbq
            replace hB := below_step hB hbq
            replace g0' := cell_ext hbq g0'
            replace g1' := cell_ext hbq g1'
            go_wp2_with (first | (refine wpList_store_all rfl 36 (.tmp 2) (.tmp 54) rfl #[.int .i64 0, .bool false, .slice none 0 0, .slice none 0 0, .int .i64 0] hx1 hR rfl rfl (by rfl) (by rfl) ?_; intro w9 hx9 hg9; have hB9 := below_blk hB hB.size hg9 (Nat.le_refl _)) | fail)
            refine bodyPost_ret (results_blk2 (q := 3) rfl hR hx9 rfl rfl) rfl (readPost_none HR hB9)
        · obtain ⟨AK, hrk, hbk⟩ := cut_lh hT (some ad) n c (kl := .i64) (kh := .i64) (lo' := 6) (lo := 6) (hi' := 6 + (numB (b.drop 2) : Nat)) (hi := 6 + numB (b.drop 2)) rfl (by omega) (by omega) (by omega)
          obtain ⟨AV, hrv, hbv⟩ := cut_l hT (some ad) n c (kl := .i64) (lo' := 6 + (numB (b.drop 2) : Nat)) (lo := 6 + numB (b.drop 2)) (by omega) (by omega)
          rw [show 6 + numB (b.drop 2) - 6 = numB (b.drop 2) from by omega] at hrk hbk
          have HBK := Lib.hid hbk
          have HBV := Lib.hid hbv
          clear hbk hbv
          have dk : decide ((65536 : Int) < ((numB (b.drop 2) : Nat) : Int)) = false := decide_eq_false (by omega)
          have dk2 : decide ((n : Int) - 6 < ((numB (b.drop 2) : Nat) : Int)) = false := decide_eq_false (by omega)
          have hbv1 : (b.drop (6 + numB (b.drop 2))).length = n - (6 + numB (b.drop 2)) := by rw [List.length_drop, h1]
          by_cases cv : (b.getD 1 0 = 1 ∧ 6 + numB (b.drop 2) < b.length) ∨ 16777216 + 6 + numB (b.drop 2) < b.length
          · have HR := Lib.hid (show readB b = none from by unfold readB; rw [if_neg c2, if_neg hnot, if_neg (by omega), if_pos cv])
            rw [h1] at cv
            clear hnot
            by_cases cd : b.getD 1 0 = 1
            · have hm : 0 < n - (6 + numB (b.drop 2)) := by omega
              have x1 : (b.getD 1 0).toNat = 1 := by rw [cd]; rfl
              rw [x1] at g1
              clear cb cv x1
              clear c1 c2 cd hbv1
              generalize hN : numB (b.drop 2) = k at *
              have HN := Lib.hid hN
              clear hN
              have hwr : IntKind.i64.wrap (6 + (k : Int)) = 6 + (k : Int) := IntWalk.i64_in _ (by omega)
              generalize n - (6 + k) = m at *
              have dm : decide (0 < m) = true := decide_eq_true hm
              have dm' : decide ((0 : Int) < (m : Int)) = true := decide_eq_true (by omega)
              have tok1 : True := trivial
              go_enter Try.func44, Try.ntmps44
              go_wp2_with (first | (have _t := tok1; refine wpList_alloc_blk rfl 36 rfl zR ?_; clear tok1; intro w1 hx1 hB hl1; have g0' := cell_ext hB g0; clear g0; have g1' := cell_ext hB g1; clear g1) | fail)
              refine (number_c (HB2.out _ b (hb.ext hB)) (by rw [List.length_drop]; omega)).mono ?_
              rintro e wq ⟨rfl, hbq⟩
              rw [HN.out]
              replace hx1 := hx1.ext hbq
              replace hB := below_step hB hbq
              replace g0' := cell_ext hbq g0'
              replace g1' := cell_ext hbq g1'
              go_wp2_with fail
              go_quiet (fail)
              replace hx1 := hx1.drewN nq
              replace hB := below_drewN hB nq
              go_wp2_with (first | (refine wpList_store_all rfl 36 (.tmp 2) (.tmp 78) rfl #[.int .i64 0, .bool false, .slice none 0 0, .slice none 0 0, .int .i64 0] hx1 hR rfl rfl (by rfl) (by rfl) ?_; intro w9 hx9 hg9; have hB9 := below_blk hB hB.size hg9 (Nat.le_refl _)) | fail)
              refine bodyPost_ret (results_blk2 (q := 3) rfl hR hx9 rfl rfl) rfl (readPost_none HR hB9)
            · have x1 : (b.getD 1 0).toNat = 0 := by
                have : (b.getD 1 0).toNat ≠ 1 := fun e => cd (UInt8.toNat_inj.1 e)
                omega
              have hm : 16777216 < n - (6 + numB (b.drop 2)) := by
                rcases cv with ⟨e, _⟩ | e
                · exact absurd e cd
                · omega
              rw [x1] at g1
              clear cb cv x1
              clear c1 c2 cd hbv1
              generalize hN : numB (b.drop 2) = k at *
              have HN := Lib.hid hN
              clear hN
              have hwr : IntKind.i64.wrap (6 + (k : Int)) = 6 + (k : Int) := IntWalk.i64_in _ (by omega)
              generalize n - (6 + k) = m at *
              have dm : decide ((16777216 : Int) < (m : Int)) = true := decide_eq_true (by omega)
              have tok1 : True := trivial
              go_enter Try.func44, Try.ntmps44
              go_wp2_with (first | (have _t := tok1; refine wpList_alloc_blk rfl 36 rfl zR ?_; clear tok1; intro w1 hx1 hB hl1; have g0' := cell_ext hB g0; clear g0; have g1' := cell_ext hB g1; clear g1) | fail)
              refine (number_c (HB2.out _ b (hb.ext hB)) (by rw [List.length_drop]; omega)).mono ?_
              rintro e wq ⟨rfl, hbq⟩
              rw [HN.out]
              replace hx1 := hx1.ext hbq
              replace hB := below_step hB hbq
              replace g0' := cell_ext hbq g0'
              replace g1' := cell_ext hbq g1'
              go_wp2_with fail
              go_quiet (fail)
              replace hx1 := hx1.drewN nq
              replace hB := below_drewN hB nq
              go_wp2_with (first | (refine wpList_store_all rfl 36 (.tmp 2) (.tmp 78) rfl #[.int .i64 0, .bool false, .slice none 0 0, .slice none 0 0, .int .i64 0] hx1 hR rfl rfl (by rfl) (by rfl) ?_; intro w9 hx9 hg9; have hB9 := below_blk hB hB.size hg9 (Nat.le_refl _)) | fail)
              refine bodyPost_ret (results_blk2 (q := 3) rfl hR hx9 rfl rfl) rfl (readPost_none HR hB9)
          · have HR := Lib.hid (show readB b = some ⟨1, b.getD 1 0 = 1, (b.take (6 + numB (b.drop 2))).drop 6, b.drop (6 + numB (b.drop 2)), 0⟩ from by unfold readB; rw [if_neg c2, if_neg hnot, if_neg (by omega), if_neg cv])
            rw [h1] at cv
            clear hnot
            by_cases cd : b.getD 1 0 = 1
            · have hm : n - (6 + numB (b.drop 2)) = 0 := by
                have : ¬ 6 + numB (b.drop 2) < n := fun h => cv (.inl ⟨cd, h⟩)
                omega
              have x1 : (b.getD 1 0).toNat = 1 := by rw [cd]; rfl
              rw [x1] at g1
              rw [decide_eq_true cd] at HR
              clear cb cv x1
              rw [hm] at hrv HBV
              clear c1 c2 cd hbv1
              generalize hN : numB (b.drop 2) = k at *
              have HN := Lib.hid hN
              clear hN
              have hwr : IntKind.i64.wrap (6 + (k : Int)) = 6 + (k : Int) := IntWalk.i64_in _ (by omega)
              have tok1 : True := trivial
              go_enter Try.func44, Try.ntmps44
              go_wp2_with (first | (have _t := tok1; refine wpList_alloc_blk rfl 36 rfl zR ?_; clear tok1; intro w1 hx1 hB hl1; have g0' := cell_ext hB g0; clear g0; have g1' := cell_ext hB g1; clear g1) | fail)
              refine (number_c (HB2.out _ b (hb.ext hB)) (by rw [List.length_drop]; omega)).mono ?_
              rintro e wq ⟨rfl, hbq⟩
              rw [HN.out]
              replace hx1 := hx1.ext hbq
              replace hB := below_step hB hbq
              replace g0' := cell_ext hbq g0'
              replace g1' := cell_ext hbq g1'
              go_wp2_with fail
              go_quiet (fail)
              replace hx1 := hx1.drewN nq
              replace hB := below_drewN hB nq
              go_wp2_with fail
              refine (Clone_any _ _ _ (HBK.out _ b (hb.ext hB) (by omega)) (by rw [List.length_drop, List.length_take]; omega)).mono ?_
              have hK4 := hx1.lt
              rintro e w4 ⟨vk, rfl, hvk, hb4⟩
              replace hx1 := hx1.ext hb4
              replace hB := below_step hB hb4
              go_wp2_with fail
              refine (Clone_any _ _ _ (HBV.out _ b (hb.ext hB)) (by rw [List.length_drop]; omega)).mono ?_
              have hV4 := hx1.lt
              rintro e w5 ⟨vv, rfl, hvv, hb5⟩
              replace hx1 := hx1.ext hb5
              replace hB := below_step hB hb5
              replace hvk := own_ext hvk hb5
              have hbk' := Bytes.own hvk
              have hbv' := Bytes.own hvv
              obtain ⟨Ak, nk, ck', rfl, k1, k2, k3, k4⟩ := hbk'
              obtain ⟨Av, nv, cv', rfl, v1, v2, v3, v4⟩ := hbv'
              go_wp2_with (first | (refine wpList_store_all rfl 36 (.tmp 2) (.tmp 85) rfl #[.int .i64 1, .bool true, .slice Ak nk ck', .slice Av nv cv', .int .i64 0] hx1 hR rfl rfl (by rfl) (by rfl) ?_; intro w9 hx9 hg9; have hB9 := below_blk hB hB.size hg9 (Nat.le_refl _)) | fail)
              exact bodyPost_ret (results_blk2 (q := 3) rfl hR hx9 rfl rfl) rfl (readPost_some HR hB9 ⟨_, _, rfl, own_base (own_kept hvk hg9 hK4) (Nat.le_of_lt hK4), own_base (own_kept hvv hg9 hV4) (Nat.le_of_lt hV4)⟩)
            · have x1 : (b.getD 1 0).toNat = 0 := by
                have : (b.getD 1 0).toNat ≠ 1 := fun e => cd (UInt8.toNat_inj.1 e)
                omega
              have hm : ¬ 16777216 < n - (6 + numB (b.drop 2)) := fun h => cv (.inr (by omega))
              rw [x1] at g1
              rw [decide_eq_false cd] at HR
              clear cb cv x1
              clear c1 c2 cd hbv1
              generalize hN : numB (b.drop 2) = k at *
              have HN := Lib.hid hN
              clear hN
              have hwr : IntKind.i64.wrap (6 + (k : Int)) = 6 + (k : Int) := IntWalk.i64_in _ (by omega)
              generalize n - (6 + k) = m at *
              have dm : decide ((16777216 : Int) < (m : Int)) = false := decide_eq_false (by omega)
              have tok1 : True := trivial
              go_enter Try.func44, Try.ntmps44
              go_wp2_with (first | (have _t := tok1; refine wpList_alloc_blk rfl 36 rfl zR ?_; clear tok1; intro w1 hx1 hB hl1; have g0' := cell_ext hB g0; clear g0; have g1' := cell_ext hB g1; clear g1) | fail)
              refine (number_c (HB2.out _ b (hb.ext hB)) (by rw [List.length_drop]; omega)).mono ?_
              rintro e wq ⟨rfl, hbq⟩
              rw [HN.out]
              replace hx1 := hx1.ext hbq
              replace hB := below_step hB hbq
              replace g0' := cell_ext hbq g0'
              replace g1' := cell_ext hbq g1'
              go_wp2_with fail
              go_quiet (fail)
              replace hx1 := hx1.drewN nq
              replace hB := below_drewN hB nq
              go_wp2_with fail
              refine (Clone_any _ _ _ (HBK.out _ b (hb.ext hB) (by omega)) (by rw [List.length_drop, List.length_take]; omega)).mono ?_
              have hK4 := hx1.lt
              rintro e w4 ⟨vk, rfl, hvk, hb4⟩
              replace hx1 := hx1.ext hb4
              replace hB := below_step hB hb4
              go_wp2_with fail
              refine (Clone_any _ _ _ (HBV.out _ b (hb.ext hB)) (by rw [List.length_drop]; omega)).mono ?_
              have hV4 := hx1.lt
              rintro e w5 ⟨vv, rfl, hvv, hb5⟩
              replace hx1 := hx1.ext hb5
              replace hB := below_step hB hb5
              replace hvk := own_ext hvk hb5
              have hbk' := Bytes.own hvk
              have hbv' := Bytes.own hvv
              obtain ⟨Ak, nk, ck', rfl, k1, k2, k3, k4⟩ := hbk'
              obtain ⟨Av, nv, cv', rfl, v1, v2, v3, v4⟩ := hbv'
              go_wp2_with (first | (refine wpList_store_all rfl 36 (.tmp 2) (.tmp 85) rfl #[.int .i64 1, .bool false, .slice Ak nk ck', .slice Av nv cv', .int .i64 0] hx1 hR rfl rfl (by rfl) (by rfl) ?_; intro w9 hx9 hg9; have hB9 := below_blk hB hB.size hg9 (Nat.le_refl _)) | fail)
              exact bodyPost_ret (results_blk2 (q := 3) rfl hR hx9 rfl rfl) rfl (readPost_some HR hB9 ⟨_, _, rfl, own_base (own_kept hvk hg9 hK4) (Nat.le_of_lt hK4), own_base (own_kept hvv hg9 hV4) (Nat.le_of_lt hV4)⟩)
  · have HR := Lib.hid (show readB b = none from by unfold readB; rw [if_neg c2, if_pos (.inl c1)])
    have u1 : ((b[0].toNat : Int) != 1) = true := by rw [bne_iff_ne]; intro e; exact c1 (by rw [e0]; exact UInt8.toNat_inj.1 (by show _ = 1; omega))
    clear c1 c2 e0 h4 hx0
    generalize b[0].toNat = x0 at *
    have tok1 : True := trivial
    go_enter Try.func44, Try.ntmps44
    go_wp2_with (first | (have _t := tok1; refine wpList_alloc_blk rfl 36 rfl zR ?_; clear tok1; intro w1 hx1 hB hl1; have g0' := cell_ext hB g0; clear g0) | (refine wpList_store_all rfl 36 (.tmp 2) (.tmp 41) rfl #[.int .i64 0, .bool false, .slice none 0 0, .slice none 0 0, .int .i64 0] hx1 hR rfl rfl (by rfl) (by rfl) ?_; intro w9 hx9 hg9; have hB9 := below_blk hB hB.size hg9 (Nat.le_refl _)) | fail)
    refine bodyPost_ret (results_blk2 (q := 3) rfl hR hx9 rfl rfl) rfl (readPost_none HR hB9)
end Go.Mun
