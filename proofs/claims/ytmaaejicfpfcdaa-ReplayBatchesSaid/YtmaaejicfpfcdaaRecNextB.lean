/- The walk of the document's reading of a record: some ways. -/
import Derived.Test.YtmaaejicfpfcdaaRecQ
namespace Go.Mun
open Go Go.RowKit Go.Proofs

set_option maxRecDepth 100000 in
set_option maxHeartbeats 8000000 in
theorem nr_B2 (A : Option Addr) (n c : Nat) (b : List UInt8) (w : World) (hbb : Bytes w (.slice A n c) b) (c4 : ¬ n < 4) (ck : ¬ (numB b = 0 ∨ 16842758 < numB b)) (cl : ¬ n < 8 + numB b) (cs : (numB (b.drop 4) : Int) = crcSum ((b.take (8 + numB b)).drop 8)) (e1 : (((b.take (8 + numB b)).drop 8).getD 0 0).toNat = 1) (e6 : ¬ numB b < 6) (f2' : (((b.take (8 + numB b)).drop 8).getD 1 0).toNat < 2) (fz : ¬ numB b < numB (((b.take (8 + numB b)).drop 8).drop 2) + 6) :
    Calls Try.prog 25 #[.slice A n c] w (NextPost w b) := by
  have FZ := Lib.hid fz
  clear fz
  have hT := bytesTyR
  have hR := recTy
  have zR := zRec_info
  obtain ⟨A', n', c', eeq, h1, h2, h3, h4⟩ := id hbb
  cases eeq
  clear h4
  unfold maxLen at h3
  have d4 : decide ((n : Int) < 4) = false := decide_eq_false (by omega)
  have hlt := numB_lt b
  have dk0 : (((numB b : Nat) : Int) == 0) = false := by rw [beq_eq_false_iff_ne]; omega
  have dk1 : decide ((16842758 : Int) < ((numB b : Nat) : Int)) = false := decide_eq_false (by omega)
  have dl : decide ((n : Int) < 8 + ((numB b : Nat) : Int)) = false := decide_eq_false (by omega)
  obtain ⟨A4, hr4, hb4⟩ := cut_l hT A n c (kl := .i64) (lo' := 4) (lo := 4) rfl (by omega)
  obtain ⟨A8, hr8, hb8⟩ := cut_lh hT A n c (kl := .i64) (kh := .i64) (lo' := 8) (lo := 8) (hi' := 8 + (numB b : Nat)) (hi := 8 + numB b) rfl (by omega) (by omega) (by omega)
  obtain ⟨A9, hr9, hb9⟩ := cut_h hT A n c (kh := .i64) (hi' := 8 + (numB b : Nat)) (hi := 8 + numB b) (by omega) (by omega)
  rw [show 8 + numB b - 8 = numB b from by omega] at hr8 hb8
  have HRn : (numB (b.drop 4) : Int) ≠ crcSum ((b.take (8 + numB b)).drop 8) → nextB b = (.zero, 0, 5) := fun h => by unfold nextB; rw [if_neg (by omega), if_neg ck, if_neg (by omega), if_pos h]
  have HRz := fun h => next_read (b := b) (by omega) ck (by omega) h
  have HRy := fun h => ref_next (b := b) (by omega) ck (by omega) h
  have hXl : ((b.take (8 + numB b)).drop 8).length = numB b := by rw [List.length_drop, List.length_take]; omega
  have HB8 := Lib.hid (fun w' (h : Below w.heap.size w w') => hb8 w' b (hbb.ext h) (by omega))
  have HB4 := Lib.hid (fun w' (h : Below w.heap.size w w') => hb4 w' b (hbb.ext h))
  have HB9 := Lib.hid (fun w' (h : Below w.heap.size w w') => hb9 w' b (hbb.ext h) (by omega))
  clear hb4 hb8 hb9
  generalize hN : numB b = k at *
  have HN := Lib.hid hN
  clear hN
  have hsl := numB_lt (b.drop 4)
  generalize hS : numB (b.drop 4) = s at *
  have HS := Lib.hid hS
  clear hS
  generalize hT9 : b.take (8 + k) = b9 at *
  have HT9 := Lib.hid hT9
  clear hT9
  generalize hXX : b9.drop 8 = X at *
  have HXX := Lib.hid hXX
  clear hXX
  have hxl := crcSum_bd X
  have HRn := Lib.hid HRn
  have HRy := Lib.hid HRy
  have HRz := Lib.hid HRz
  have hd4 : (b.drop 4).length = n - 4 := by rw [List.length_drop, h1]
  generalize b.drop 4 = b4 at *
  have hwr : IntKind.i64.wrap (8 + (k : Int)) = 8 + (k : Int) := IntWalk.i64_in _ (by omega)
  have hcx : (crcSum X != (s : Int)) = false := by rw [bne_eq_false_iff_eq]; exact cs.symm
  have HRy2 := Lib.hid (HRy.out cs)
  have HRz2 := Lib.hid (HRz.out cs)
  clear HRn HRy HRz cs
  have hq8 := HB8.out w (Below.refl _ _)
  obtain ⟨_, _, _, ee, _, _, _, xr⟩ := hq8
  cases ee
  obtain ⟨a8, rfl, gx0⟩ := byteD xr (j := 0) (by omega)
  rw [add_zero'] at gx0
  have g0k : 0 < k := by omega
  have hx02 := u8_two (X.getD 0 0)
  have hx01 := u8_one (X.getD 0 0)
  generalize hx0n : (X.getD 0 0).toNat = x0 at *
  have hx0b : x0 < 256 := by rw [← hx0n]; exact (X.getD 0 0).toNat_lt
  have HX0 := Lib.hid hx0n
  clear hx0n
  have wx0 : IntKind.i64.wrap (x0 : Int) = (x0 : Int) := IntWalk.i64_in _ (by omega)
  have R2 := Lib.hid (show X.getD 0 0 ≠ 2 from fun e => by have h9 := hx02.1 e; omega)
  have R1 := Lib.hid (hx01.2 e1)
  subst e1
  clear hx01 hx02
  have d6 : decide ((6 : Int) ≤ (k : Int)) = true := decide_eq_true (by omega)
  obtain ⟨_, e, gx1⟩ := byteD xr (j := 1) (by omega)
  cases e
  replace gx1 : w.cell? ⟨a8.block, a8.off + 1, none⟩ = _ := gx1
  have g1k : (1 : Int) < (k : Int) := by omega
  generalize hx1n : (X.getD 1 0).toNat = x1 at *
  have HX1 := Lib.hid hx1n
  clear hx1n
  have df : decide ((x1 : Int) < 2) = true := decide_eq_true (by omega)
  obtain ⟨A2, hr2, hb2⟩ := cut_l hT (some a8) k (c - 8) (kl := .i64) (lo' := 2) (lo := 2) rfl (by omega)
  have HB2 := Lib.hid hb2
  clear hb2
  have hlx2 := numB_lt (X.drop 2)
  generalize hNX : numB (X.drop 2) = z at *
  have HNX := Lib.hid hNX
  clear hNX
  have fz := FZ.out
  have dz : decide ((k : Int) - 6 < (z : Int)) = false := decide_eq_false (by omega)
  obtain ⟨AK, hrk, hbk⟩ := cut_lh hT (some a8) k (c - 8) (kl := .i64) (kh := .i64) (lo' := 6) (lo := 6) (hi' := 6 + (z : Int)) (hi := 6 + z) rfl (by omega) (by omega) (by omega)
  obtain ⟨AV, hrv, hbv⟩ := cut_l hT (some a8) k (c - 8) (kl := .i64) (lo' := 6 + (z : Int)) (lo := 6 + z) (by omega) (by omega)
  rw [show 6 + z - 6 = z from by omega] at hrk hbk
  have HBK := Lib.hid (fun w' (h : Below w.heap.size w w') => hbk w' X (HB8.out w' h) (by omega))
  have HBV := Lib.hid (fun w' (h : Below w.heap.size w w') => hbv w' X (HB8.out w' h))
  clear hbk hbv
  have wz6 : IntKind.i64.wrap (6 + (z : Int)) = 6 + (z : Int) := IntWalk.i64_in _ (by omega)
  have hKl : ((X.take (6 + z)).drop 6).length ≤ 16842758 := by rw [List.length_drop, List.length_take]; omega
  have hVl : (X.drop (6 + z)).length ≤ 16842758 := by rw [List.length_drop]; omega
  generalize hKK : (X.take (6 + z)).drop 6 = K at *
  have HKK := Lib.hid hKK
  clear hKK
  generalize hVV : X.drop (6 + z) = V at *
  have HVW := Lib.hid hVV
  clear hVV
  obtain ⟨dq, hdl⟩ : ∃ dq : Bool, dq = decide (X.getD 1 0 = 1) := ⟨_, rfl⟩
  have HDL := Lib.hid hdl
  have dx : ((x1 : Int) == 1) = dq := by
    rw [hdl, Bool.eq_iff_iff, beq_iff_eq, decide_eq_true_eq]
    constructor
    · intro e; exact (u8_one _).2 (by rw [HX1.out]; omega)
    · intro e; have := (u8_one _).1 e; rw [HX1.out] at this; omega
  clear hdl
  have tok1 : True := trivial
  go_enter Try.func25, Try.ntmps25
  have tok2 : True := trivial
  have tok3 : True := trivial
  go_wp2_with (first | ((with_reducible refine gd_alloc ?_); have _t := tok1; refine wpList_alloc_blk rfl 36 rfl zR ?_; clear tok1; intro w1 hx1 hB hl1) | fail)
  refine (num_c (hbb.ext hB) (by omega)).mono ?_
  rintro e wq ⟨rfl, hbq⟩
  rw [HN.out]
  replace hx1 := hx1.ext hbq
  replace hB := below_step hB hbq
  go_wp2_with fail
  go_quiet (first
    | (go_at_call 18; exact Calls.quiet_of_same (Crc_q (Bytes_drewN (HB8.out _ hB) _) (by omega)))
    | (go_at_call 46; exact Calls.quiet_of (num_q HS.out (Bytes_drewN (HB4.out _ hB) _) (by omega))))
  replace hx1 := hx1.drewN nq
  replace hB := below_drewN hB nq
  generalize wq.drewN nq = wn at hx1 hB ⊢
  have gx0' := cell_ext hB gx0
  have hg7 := hx1.lt
  have gx1' := cell_ext hB gx1
  go_wp2_with (first
    | ((with_reducible refine gd_alloc ?_); have _t := tok2; have hl1 := hx1.lt; refine wpList_alloc_blk rfl 36 rfl zR ?_; clear tok2; intro w4 hx7 hb4 hl4; replace hx1 := hx1.ext hb4)
    | ((with_reducible refine gd_store ?_); have _t := tok3; refine wpList_store_all rfl 36 (.tmp 7) (.tmp 45) rfl #[.int .i64 1, .bool false, .slice none 0 0, .slice none 0 0, .int .i64 0] hx7 hR rfl rfl (by rfl) (by rfl) ?_; clear tok3; intro w3 hx3 hg3; replace hx7 := hx3; replace hx1 := hx1.grown hg3 (by simp; omega); have hb34 := below_blk hb4 hb4.size hg3 (Nat.le_refl _); replace hB := below_step hB hb34; replace gx0' := cell_ext hb34 gx0'; replace gx1' := cell_ext hb34 gx1')
    | fail
    | fail)
  refine (num_c (HB2.out _ X (HB8.out _ hB)) (by rw [List.length_drop]; omega)).mono ?_
  rintro e w6 ⟨rfl, hb6⟩
  replace hx1 := hx1.ext hb6
  replace hx7 := hx7.ext hb6
  replace hB := below_step hB hb6
  replace gx1' := cell_ext hb6 gx1'
  rw [HNX.out]
  go_upto_region 18 with (fail)
  replace hx7 := hx7.drew
  replace hx1 := hx1.drew
  replace hB := hB.drew
  have y1 := hx7.cellv (i := 1) rfl
  have y2 := hx7.cellv (i := 2) rfl
  have y3 := hx7.cellv (i := 3) rfl
  have f1 := hx7.frozen 1
  have f2 := hx7.frozen 2
  have f3 := hx7.frozen 3
  have tokA : True := trivial
  have tokB : True := trivial
  have hane := World.block_lt_of_cell? _ _ gx1
  simp only at hane
  go_region_held3 (fun w' => w'.cell? ⟨a8.block, a8.off + 1, none⟩ = some (.int .u8 (x1 : Int))) (first | go_keep | exact gx1' | (rw [World.cell?_setCell_other _ _ _ _ (by intro e; simp only [Addr.mk.injEq, and_true] at e; omega), World.cell?_setCell_other _ _ _ _ (by intro e; simp only [Addr.mk.injEq, and_true] at e; omega), World.cell?_setCell_other _ _ _ _ (by intro e; simp only [Addr.mk.injEq, and_true] at e; omega)]; exact gx1'))
    (first
      | (have _t := tokA; refine step_append_bytes (by rfl) (.const (.slice none 0 0)) (.tmp 89) _ (by rfl) (wn.heap.size + 1) hT (xs := []) (by rfl) (own_nil _ _) (by rfl) (HBK.out _ hB) (by simp; omega) (Nat.succ_le_of_lt hx7.lt) ?_; clear tokA; intro va wz hoa hgz hata; have hbz := (Below.refl _ _).grown (show World.grownBy _ wz none from hgz) (Nat.le_refl _) (fun k hk => by cases hk); replace hx7 := hx7.ext hbz; replace hx1 := hx1.ext hbz; replace hB := below_step hB hbz; replace gx1' := cell_ext hbz gx1'; replace y1 := hx7.cellv (i := 1) rfl; replace y2 := hx7.cellv (i := 2) rfl; replace y3 := hx7.cellv (i := 3) rfl; replace f1 := hx7.frozen 1; replace f2 := hx7.frozen 2; replace f3 := hx7.frozen 3; (try replace hob := own_ext hob hbz); rw [List.nil_append] at hoa; obtain ⟨Aa, ca, rfl, hla, hlx'⟩ := own_slice hoa; clear hla hlx')
      | (have _t := tokB; refine step_append_bytes (by rfl) (.const (.slice none 0 0)) (.tmp 94) _ (by rfl) (wn.heap.size + 1) hT (xs := []) (by rfl) (own_nil _ _) (by rfl) (HBV.out _ hB) (by simp; omega) (Nat.succ_le_of_lt hx7.lt) ?_; clear tokB; intro vb wz hob hgz hatb; have hbz := (Below.refl _ _).grown (show World.grownBy _ wz none from hgz) (Nat.le_refl _) (fun k hk => by cases hk); replace hx7 := hx7.ext hbz; replace hx1 := hx1.ext hbz; replace hB := below_step hB hbz; replace gx1' := cell_ext hbz gx1'; replace y1 := hx7.cellv (i := 1) rfl; replace y2 := hx7.cellv (i := 2) rfl; replace y3 := hx7.cellv (i := 3) rfl; replace f1 := hx7.frozen 1; replace f2 := hx7.frozen 2; replace f3 := hx7.frozen 3; (try replace hoa := own_ext hoa hbz); rw [List.nil_append] at hob; obtain ⟨Ab, cb, rfl, hlb, hlx'⟩ := own_slice hob; clear hlb hlx'))
  simp only [List.length_nil, Nat.zero_add] at hoa hob
  have hx8 : Blk (((wz.setCell ⟨wn.heap.size, 1, none⟩ (.bool dq)).setCell ⟨wn.heap.size, 2, none⟩ (.slice Aa K.length ca)).setCell ⟨wn.heap.size, 3, none⟩ (.slice Ab V.length cb)) wn.heap.size 36 #[.int .i64 1, .bool dq, .slice Aa K.length ca, .slice Ab V.length cb, .int .i64 0] := ((hx7.set_ 1 (.bool dq)).set_ 2 (.slice Aa K.length ca)).set_ 3 (.slice Ab V.length cb)
  have hx9' := ((hx1.far (p := ⟨wn.heap.size, 1, none⟩) (by simp; omega) (.bool dq)).far (p := ⟨wn.heap.size, 2, none⟩) (by simp; omega) (.slice Aa K.length ca)).far (p := ⟨wn.heap.size, 3, none⟩) (by simp; omega) (.slice Ab V.length cb)
  have hB9 := ((hB.setCell (p := ⟨wn.heap.size, 1, none⟩) (by simp; omega) (.bool dq)).setCell (p := ⟨wn.heap.size, 2, none⟩) (by simp; omega) (.slice Aa K.length ca)).setCell (p := ⟨wn.heap.size, 3, none⟩) (by simp; omega) (.slice Ab V.length cb)
  have hko := own_base (own_kept (own_kept (own_kept hoa (grownBy_setCell wz ⟨wn.heap.size, 1, none⟩ (.bool dq)) (Nat.lt_succ_self _)) (grownBy_setCell _ ⟨wn.heap.size, 2, none⟩ (.slice Aa K.length ca)) (Nat.lt_succ_self _)) (grownBy_setCell _ ⟨wn.heap.size, 3, none⟩ (.slice Ab V.length cb)) (Nat.lt_succ_self _)) (Nat.succ_le_succ (Nat.le_of_lt hg7))
  have hvo := own_base (own_kept (own_kept (own_kept hob (grownBy_setCell wz ⟨wn.heap.size, 1, none⟩ (.bool dq)) (Nat.lt_succ_self _)) (grownBy_setCell _ ⟨wn.heap.size, 2, none⟩ (.slice Aa K.length ca)) (Nat.lt_succ_self _)) (grownBy_setCell _ ⟨wn.heap.size, 3, none⟩ (.slice Ab V.length cb)) (Nat.lt_succ_self _)) (Nat.succ_le_succ (Nat.le_of_lt hg7))
  clear hoa hob hata hatb y1 y2 y3 f1 f2 f3 hx7 hx1 hB gx1'
  generalize (((wz.setCell ⟨wn.heap.size, 1, none⟩ (.bool dq)).setCell ⟨wn.heap.size, 2, none⟩ (.slice Aa K.length ca)).setCell ⟨wn.heap.size, 3, none⟩ (.slice Ab V.length cb)) = w8 at hx8 hx9' hB9 hko hvo ⊢
  have hx7 := hx8
  have hx1 := hx9'
  have hB := hB9
  clear hx8 hx9' hB9
  go_upto_region 19 with (fail)
  have hhi : -9223372036854775808 ≤ ((0) : Int) ∧ ((0) : Int) ≤ 9223372036854775807 := by omega
  have HRR := Lib.hid (show refRec X = (Rec.mk (1) dq K V (0)) from by unfold refRec; rw [if_neg (fun h => R2.out h.1), if_pos ⟨R1.out, by omega, by rw [HX1.out]; omega⟩, HNX.out, HKK.out, HVW.out, ← HDL.out])
  go_wp2_with (first | ((with_reducible refine gd_load ?_); refine wpList_load_blk rfl 36 (.tmp 7) rfl hx7 hR rfl ?_) | fail)
  refine (PackRecord_any (Rec.mk (1) dq K V (0)) (.slice Aa K.length ca) (.slice Ab V.length cb) _ (Bytes.own hko) (Bytes.own hvo) hhi.1 hhi.2).mono ?_
  rintro e w5 ⟨hb5, ⟨he, rfl⟩ | ⟨he, vr, rfl, hor⟩⟩
  · have HR2 := Lib.hid (show nextB b = (.zero, 0, 4) from HRy2.out.2 (by rw [HRR.out]; exact fun h => he h.1))
    replace hx1 := hx1.ext hb5
    replace hB := below_step hB hb5
    generalize Rec.err (Rec.mk (1) dq K V (0)) = E at *
    have hE : (E != 0) = true := by rw [bne_iff_ne]; exact he
    clear he
    go_wp2_with fail
    go_quiet (fail)
    replace hx1 := hx1.drewN nq
    replace hB := below_drewN hB nq
    generalize w5.drewN nq = wm at hx1 hB ⊢
    go_wp2_with (first | ((with_reducible refine gd_store ?_); refine wpList_store_all rfl 36 (.tmp 2) (.tmp 115) rfl #[.int .i64 0, .bool false, .slice none 0 0, .slice none 0 0, .int .i64 0] hx1 hR rfl rfl (by rfl) (by rfl) ?_; intro w9 hx9 hg9; have hB9 := below_blk hB hB.size hg9 (Nat.le_refl _)) | fail)
    exact bodyPost_ret (results_blk3 (q := 3) (r := 4) rfl hR hx9 rfl rfl rfl) rfl (nextPost_of HR2 hB9 (RecO.zero _ _) rfl)
  · replace hx1 := hx1.ext hb5
    replace hx7 := hx7.ext hb5
    replace hko := own_ext hko hb5
    replace hvo := own_ext hvo hb5
    replace hB := below_step hB hb5
    have H1 : Rec.bytes (Rec.mk (1) dq K V (0)) = b9 → nextB b = ((Rec.mk (1) dq K V (0)), 8 + k, 0) := fun h2 => by
      have h3 := HRy2.out.1 ⟨by rw [HRR.out]; exact he, by rw [HRR.out]; exact h2⟩
      rw [HRR.out] at h3
      exact h3
    have H2 : Rec.bytes (Rec.mk (1) dq K V (0)) ≠ b9 → nextB b = (.zero, 0, 4) := fun h2 => HRy2.out.2 fun h => h2 (by rw [HRR.out] at h; exact h.2)
    have hbl : (Rec.bytes (Rec.mk (1) dq K V (0))).length ≤ 16842766 := by have := body_bd he; rw [bytes_length]; omega
    generalize Rec.bytes (Rec.mk (1) dq K V (0)) = br at *
    clear he
    obtain ⟨Ar, cr, rfl, hlr, hyr⟩ := own_slice hor
    have hc1 := fun q => run_str (P := Try.prog) (src := 24) (dst := 9) (Bytes_drewN hyr q) Try.underlying24 Try.underlying5 Try.underlying9
    have hc2 := fun q => run_str (P := Try.prog) (src := 24) (dst := 9) (Bytes_drewN (HB9.out _ hB) q) Try.underlying24 Try.underlying5 Try.underlying9
    by_cases es : br = b9
    · have HR2 := Lib.hid (H1 es)
      clear H1 H2
      have hse : ((⟨br.toArray⟩ : ByteArray) != ⟨b9.toArray⟩) = false := by rw [str_ne, decide_eq_true es]; rfl
      have hsl : (br == b9) = true := by rw [list_beq, decide_eq_true es]
      clear es
      go_wp2_with fail
      go_quiet (fail)
      replace hx1 := hx1.drewN nq
      replace hB := below_drewN hB nq
      replace hx7 := hx7.drewN nq
      replace hko := own_drewN hko nq
      replace hvo := own_drewN hvo nq
      generalize w5.drewN nq = wm at hx1 hB hx7 hko hvo ⊢
      have hoK := own_one hko
      have hoV := own_one hvo
      go_upto_region 22 with (fail)
      go_wp2_with (first
        | ((with_reducible refine gd_load ?_); refine wpList_load_blk rfl 36 (.tmp 7) rfl hx7 hR rfl ?_)
        | ((with_reducible refine gd_store ?_); refine wpList_store_all rfl 36 (.tmp 2) (.tmp 116) rfl #[.int .i64 (1), .bool dq, (.slice Aa K.length ca), (.slice Ab V.length cb), .int .i64 (0)] hx1 hR rfl (by simp only [oneAll, hoK, hoV]; rfl) (by rfl) (by rfl) ?_; intro w9 hx9 hg9; have hB9 := below_blk hB hB.size hg9 (Nat.le_refl _))
        | fail)
      exact bodyPost_ret (results_blk3 (q := 3) (r := 4) rfl hR hx9 rfl rfl rfl) rfl (nextPost_of HR2 hB9 ⟨_, _, rfl, own_base (own_kept hko hg9 (Nat.lt_succ_self _)) (Nat.le_succ _), own_base (own_kept hvo hg9 (Nat.lt_succ_self _)) (Nat.le_succ _)⟩ (by omega))
    · have HR2 := Lib.hid (H2 es)
      clear H1 H2
      have hse : ((⟨br.toArray⟩ : ByteArray) != ⟨b9.toArray⟩) = true := by rw [str_ne, decide_eq_false es]; rfl
      have hsl : (br == b9) = false := by rw [list_beq, decide_eq_false es]
      clear es
      go_wp2_with fail
      go_quiet (fail)
      replace hx1 := hx1.drewN nq
      replace hB := below_drewN hB nq
      generalize w5.drewN nq = wm at hx1 hB ⊢
      go_wp2_with (first | ((with_reducible refine gd_store ?_); refine wpList_store_all rfl 36 (.tmp 2) (.tmp 115) rfl #[.int .i64 0, .bool false, .slice none 0 0, .slice none 0 0, .int .i64 0] hx1 hR rfl rfl (by rfl) (by rfl) ?_; intro w9 hx9 hg9; have hB9 := below_blk hB hB.size hg9 (Nat.le_refl _)) | fail)
      exact bodyPost_ret (results_blk3 (q := 3) (r := 4) rfl hR hx9 rfl rfl rfl) rfl (nextPost_of HR2 hB9 (RecO.zero _ _) rfl)
end Go.Mun
