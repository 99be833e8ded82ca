/- FilesRename: a way a theorem. -/
import Derived.Test.YtdkccaiahgfjoaaFsPlain3
import Derived.Test.YtdkccaiahgfjoaaFsCutR
import Derived.Deep.QuietTactic
import Derived.BigQuiet
namespace Go.Mun
open Go Go.RowKit Go.Proofs Go.Maps

theorem str_eqs (l : List UInt8) : ((⟨l.toArray⟩ : ByteArray) == ⟨l.toArray⟩) = true := by rw [str_eq]; simp
theorem str_nes (l : List UInt8) : ((⟨l.toArray⟩ : ByteArray) != ⟨l.toArray⟩) = false := by rw [str_ne]; simp
set_option maxRecDepth 100000 in
set_option maxHeartbeats 4000000 in
theorem walk_fff (va vb : Value) (a b : List UInt8) (w : World) (hva : Bytes w va a) (hvb : Bytes w vb b) (ha : 1 ≤ a.length) (ha3 : a.length ≤ 300) (hb3 : b.length ≤ 300) :
    Calls Try.prog 7 #[va, vb, .bool false, .bool false, .bool false] w fun e w' => e = .returned (.bool true) ∧ Below w.heap.size w w' := by
  have CA := Lib.hid alive_any
  have HA := Lib.hid hva
  have HB := Lib.hid hvb
  obtain ⟨A1, n1, c1, rfl, a1, a2, a3, a4⟩ := id hva
  obtain ⟨A2, n2, c2, rfl, b1, b2, b3, b4⟩ := id hvb
  subst a1 b1
  clear a4 b4 hva hvb
  have e0 : decide ((a.length : Int) < 1) = false := decide_eq_false (by omega)
  have e1 : decide ((300 : Int) < (a.length : Int)) = false := decide_eq_false (by omega)
  have e2 : decide ((300 : Int) < (b.length : Int)) = false := decide_eq_false (by omega)
  have hbT := bytesTyC
  have sa := str_nes a
  have sb := str_eqs a
  obtain ⟨M0, hM0⟩ : ∃ x, x = (⟨[], [], [], -1, 0, [], false, 0, fun _ => ⟨[], 0⟩, 0⟩ : FSs) := ⟨_, rfl⟩
  have HM0 := Lib.hid hM0
  clear hM0
  have RM0 := Lib.hid (show newM = M0 by rw [HM0.out] <;> rfl)
  obtain ⟨M1, hM1⟩ : ∃ x, x = (⟨[(cNew, 0)], [], [.made cNew 0], -1, 0, [], false, 1, fun j => if j = 0 then ⟨a, 0⟩ else (fun j => if j = 0 then ⟨[], 0⟩ else (fun _ => ⟨[], 0⟩) j) j, 1⟩ : FSs) := ⟨_, rfl⟩
  have HM1 := Lib.hid hM1
  clear hM1
  have RM1 := Lib.hid (show appM M0 cNew a = M1 by rw [HM1.out, HM0.out] <;> rfl)
  obtain ⟨M2, hM2⟩ : ∃ x, x = (⟨[(cNew, 0)], [], [.made cNew 0], -1, 0, [], false, 2, fun j => if j = 0 then ⟨a, (a).length⟩ else (fun j => if j = 0 then ⟨a, 0⟩ else (fun j => if j = 0 then ⟨[], 0⟩ else (fun _ => ⟨[], 0⟩) j) j) j, 1⟩ : FSs) := ⟨_, rfl⟩
  have HM2 := Lib.hid hM2
  clear hM2
  have RM2 := Lib.hid (show syncM M1 cNew = M2 by rw [HM2.out, HM1.out] <;> rfl)
  obtain ⟨M3, hM3⟩ : ∃ x, x = (⟨[(cNew, 0)], [], [.made cNew 0], -1, 0, [], false, 2, fun j => if j = 0 then ⟨a, (a).length⟩ else (fun j => if j = 0 then ⟨a, 0⟩ else (fun j => if j = 0 then ⟨[], 0⟩ else (fun _ => ⟨[], 0⟩) j) j) j, 1⟩ : FSs) := ⟨_, rfl⟩
  have HM3 := Lib.hid hM3
  clear hM3
  have RM3 := Lib.hid (show syncM M2 cOld = M3 by rw [HM3.out, HM2.out] <;> rfl)
  obtain ⟨M4, hM4⟩ : ∃ x, x = (⟨[(cNew, 0)], [(cNew, 0)], [], -1, 0, [], false, 3, fun j => if j = 0 then ⟨a, (a).length⟩ else (fun j => if j = 0 then ⟨a, 0⟩ else (fun j => if j = 0 then ⟨[], 0⟩ else (fun _ => ⟨[], 0⟩) j) j) j, 1⟩ : FSs) := ⟨_, rfl⟩
  have HM4 := Lib.hid hM4
  clear hM4
  have RM4 := Lib.hid (show dirM M3 = M4 by rw [HM4.out, HM3.out] <;> rfl)
  have G5 := Lib.hid (show goesB M4 (isB M4 cNew && namedB cOld) = true by rw [HM4.out] <;> rfl)
  obtain ⟨M5, hM5⟩ : ∃ x, x = (⟨[(cOld, 0)], [(cNew, 0)], [.ren cNew cOld 0], -1, 0, [], false, 4, fun j => if j = 0 then ⟨a, (a).length⟩ else (fun j => if j = 0 then ⟨a, 0⟩ else (fun j => if j = 0 then ⟨[], 0⟩ else (fun _ => ⟨[], 0⟩) j) j) j, 1⟩ : FSs) := ⟨_, rfl⟩
  have HM5 := Lib.hid hM5
  clear hM5
  have RM5 := Lib.hid (show renM M4 cNew cOld = M5 by rw [HM5.out, HM4.out] <;> rfl)
  have EX := Lib.hid (show readM M5 cOld = a from (by rw [HM5.out] <;> rfl))
  have IX := Lib.hid (show isB M5 cOld = true from (by rw [HM5.out] <;> rfl))
  have EG := Lib.hid (show readM M5 cNew = [] from (by rw [HM5.out] <;> rfl))
  have IG := Lib.hid (show isB M5 cNew = false from (by rw [HM5.out] <;> rfl))
  obtain ⟨M6, hM6⟩ : ∃ x, x = (⟨[(cOld, 0)], [(cNew, 0)], [.ren cNew cOld 0], 0, 0, [false], false, 4, fun j => if j = 0 then ⟨a, (a).length⟩ else (fun j => if j = 0 then ⟨a, 0⟩ else (fun j => if j = 0 then ⟨[], 0⟩ else (fun _ => ⟨[], 0⟩) j) j) j, 1⟩ : FSs) := ⟨_, rfl⟩
  have HM6 := Lib.hid hM6
  clear hM6
  have RM6 := Lib.hid (show planM M5 0 0 [false] = M6 by rw [HM6.out, HM5.out] <;> rfl)
  have RM6C := Lib.hid (show appM M6 cZ [] = crashM M6 from app_off (by rw [HM6.out] <;> rfl) (by rw [HM6.out] <;> rfl))
  have EY := Lib.hid (show readM (startM (crashM M6)) cOld = [] from crash_read_no (M := M6) (by rw [HM6.out] <;> rfl))
  have IY := Lib.hid (show isB (startM (crashM M6)) cOld = false from crash_isB_no (M := M6) (by rw [HM6.out] <;> rfl))
  have EW := Lib.hid (show readM (startM (crashM M6)) cNew = a from crash_read (M := M6) (i := 0) (by rw [HM6.out] <;> rfl) (by rw [HM6.out] <;> rfl) (by rw [HM6.out] <;> rfl))
  have IW := Lib.hid (show isB (startM (crashM M6)) cNew = true from crash_isB (M := M6) (i := 0) (by rw [HM6.out] <;> rfl))
  go_enter Try.func7, Try.ntmps7
  go_upto_region 21 with (first
    | (go_at_call 9; (with_reducible refine (CA.out _).mono ?_); rintro e w1 ⟨rfl, hb1⟩; have N0 := Lib.hid (New_in (w0 := w) (w := w1) (o := fun _ => none) 0 (fun _ _ => rfl) hb1 (fun _ _ => rfl)))
    | (go_at_call 10; (with_reducible refine N0.out.mono ?_); rintro e w2 ⟨p, o2, rfl, h2, T2⟩; clear T2; rw [RM0.out] at h2)
    | (go_at_call 11; (with_reducible refine (App_in h2 cNew (by decide) _ (a) (HA.out.ext h2.below) (Free.arg h2.base HA.out) (by first | omega | decide) (by omega) (by omega)).mono ?_); rintro e wq1 ⟨rfl, _, hq1, Thq1⟩; clear h2; clear Thq1; rw [RM1.out] at hq1)
    | (go_at_call 13; (with_reducible refine (Sync_in hq1 cNew (by decide) (by omega) (by omega)).mono ?_); rintro e wq2 ⟨rfl, _, hq2, Thq2⟩; clear hq1; clear Thq2; rw [RM2.out] at hq2)
    | (go_at_call 13; (with_reducible refine (Sync_in hq2 cOld (by decide) (by omega) (by omega)).mono ?_); rintro e wq3 ⟨rfl, _, hq3, Thq3⟩; clear hq2; clear Thq3; rw [RM3.out] at hq3)
    | (go_at_call 15; (with_reducible refine (Dir_in hq3 (by omega) (by omega)).mono ?_); rintro e wq4 ⟨rfl, _, hq4, Thq4⟩; clear hq3; clear Thq4; rw [RM4.out] at hq4)
    | (go_at_call 25; (with_reducible refine (Ren_in hq4 cNew cOld (by decide) (by decide) (by omega) (by omega)).mono ?_); rintro e wq5 ⟨he, _, hq5, Thq5⟩; rw [G5.out] at he; subst he; clear hq4; clear Thq5; rw [RM5.out] at hq5)
    | (go_at_call 21; (with_reducible refine (Read_in hq5 cOld (by decide) (by first | omega | (simp only [List.length_nil]; omega))).mono ?_); rintro e wq6 ⟨vX, he, hoX, hbX, hq6⟩; rw [IX.out] at he; subst he; have hrX := read_cast hoX EX.out; clear hoX; obtain ⟨AX, cX, rfl⟩ := row_slC hrX; have BX := Held.own (k := 0) hq5.own hrX; have capX := row_cap hrX; clear hrX; clear hbX; clear hq5)
    | (go_at_call 21; (with_reducible refine (Read_in hq6 cNew (by decide) (by first | omega | (simp only [List.length_nil]; omega))).mono ?_); rintro e wq7 ⟨vG, he, hoG, hbG, hq7⟩; rw [IG.out] at he; subst he; have hrG := read_cast hoG EG.out; clear hoG; obtain ⟨AG, cG, rfl⟩ := row_slC hrG; have BG := Held.own (k := 0) hq6.own hrG; have capG := row_cap hrG; clear hrG; replace BX := BX.ext hbG; clear hbG; clear hq6)
    | ((with_reducible refine gd_rowC ?_); refine wpList_row_val (v := .bool false) rfl (.tmp 71) rfl boolsTy (by decide) rfl rfl ?_; intro wr hxr hbr hlr; have hqr := hq7.ext hbr; have FR := Lib.hid (Free.lit (k := 0) (n := 1) (c := 1) hq7.own); have BR := Lib.hid (show Bools wr (.slice (some ⟨_, 0, none⟩) 1 1) [false] from ⟨_, _, _, rfl, rfl, Nat.le_refl _, by decide, hxr.rd⟩); replace BX := BX.ext hbr; clear BG; clear hq7 hxr hbr)
    | (go_at_call 19; (with_reducible refine (Plan_in hqr 0 0 (_) [false] (by decide) (by decide) (BR.out) (FR.out) (by simp)).mono ?_); rintro e wq8 ⟨rfl, _, hq8, Thq8⟩; clear hqr; replace BX := BX.turn Thq8; clear Thq8; rw [RM6.out] at hq8)
    | (go_at_call 11; (with_reducible refine (App_in hq8 cZ (by decide) (.slice none 0 0) [] (Bytes.nil _) Free.nil (by decide) (by omega) (by omega)).mono ?_); rintro e wq9 ⟨rfl, _, hq9, Thq9⟩; clear hq8; replace BX := BX.turn Thq9; clear Thq9; rw [RM6C.out] at hq9)
    | (go_at_call 20; (with_reducible refine (Start_in hq9).mono ?_); rintro e wq10 ⟨rfl, hq10, Thq10⟩; clear hq9; replace BX := BX.turn Thq10; clear Thq10)
    | (go_at_call 21; (with_reducible refine (Read_in hq10 cOld (by decide) (by first | omega | (simp only [List.length_nil]; omega))).mono ?_); rintro e wq11 ⟨vY, he, hoY, hbY, hq11⟩; rw [IY.out] at he; subst he; have hrY := read_cast hoY EY.out; clear hoY; obtain ⟨AY, cY, rfl⟩ := row_slC hrY; have BY := Held.own (k := 0) hq10.own hrY; have capY := row_cap hrY; clear hrY; replace BX := BX.ext hbY; clear hbY; clear hq10)
    | (go_at_call 21; (with_reducible refine (Read_in hq11 cNew (by decide) (by first | omega | (simp only [List.length_nil]; omega))).mono ?_); rintro e wq12 ⟨vW, he, hoW, hbW, hq12⟩; rw [IW.out] at he; subst he; have hrW := read_cast hoW EW.out; clear hoW; obtain ⟨AW, cW, rfl⟩ := row_slC hrW; have BW := Held.own (k := 0) hq11.own hrW; have capW := row_cap hrW; clear hrW; replace BX := BX.ext hbW; replace BY := BY.ext hbW; clear hbW; clear hq11)
    | fail)
  have HVA := HA.out.ext hq12.below
  have HVB := HB.out.ext hq12.below
  have q1 := run_str (P := Try.prog) (src := 26) (dst := 9) BX.bytes u8sTy u8Ty Try.underlying9
  have q2 := run_str (P := Try.prog) (src := 26) (dst := 9) HVA u8sTy u8Ty Try.underlying9
  have q3 := run_str (P := Try.prog) (src := 26) (dst := 9) BY.bytes u8sTy u8Ty Try.underlying9
  have q4 := run_str (P := Try.prog) (src := 26) (dst := 9) BW.bytes u8sTy u8Ty Try.underlying9
  have hbl := hq12.below
  go_upto_region 25 with (fail)
  obtain ⟨A3, r1, r2⟩ := cut_h hbT A2 b.length c2 (kh := .i64) (hi' := 0) (hi := 0) (by first | rfl | simp) (by omega)
  have HV3 := r2 _ _ HVB (by omega)
  rw [show b.take 0 = ([] : List UInt8) from by simp] at HV3
  have p1 := fun m => run_str (P := Try.prog) (src := 26) (dst := 9) (Bytes_drewN BW.bytes m) u8sTy u8Ty Try.underlying9
  have p2 := fun m => run_str (P := Try.prog) (src := 26) (dst := 9) (Bytes_drewN HVA m) u8sTy u8Ty Try.underlying9
  have p3 := fun m => run_str (P := Try.prog) (src := 26) (dst := 9) (Bytes_drewN (show Bytes _ (.slice AY 0 cY) ([] : List UInt8) from BY.bytes) m) u8sTy u8Ty Try.underlying9
  have p4 := fun m => run_str (P := Try.prog) (src := 26) (dst := 9) (Bytes_drewN HV3 m) u8sTy u8Ty Try.underlying9
  have sy := str_eqs ([] : List UInt8)
  clear q1 q2 q3 q4 BX BY BW HVA HVB HV3 r2
  go_quiet (fail)
  go_wp2
  go_ret
  exact ⟨by first | rfl | simp [str_eqs, str_nes], below_drewN hbl _⟩

set_option maxRecDepth 100000 in
set_option maxHeartbeats 4000000 in
theorem walk_fft (va vb : Value) (a b : List UInt8) (w : World) (hva : Bytes w va a) (hvb : Bytes w vb b) (ha : 1 ≤ a.length) (ha3 : a.length ≤ 300) (hb3 : b.length ≤ 300) :
    Calls Try.prog 7 #[va, vb, .bool false, .bool false, .bool true] w fun e w' => e = .returned (.bool true) ∧ Below w.heap.size w w' := by
  have CA := Lib.hid alive_any
  have HA := Lib.hid hva
  have HB := Lib.hid hvb
  obtain ⟨A1, n1, c1, rfl, a1, a2, a3, a4⟩ := id hva
  obtain ⟨A2, n2, c2, rfl, b1, b2, b3, b4⟩ := id hvb
  subst a1 b1
  clear a4 b4 hva hvb
  have e0 : decide ((a.length : Int) < 1) = false := decide_eq_false (by omega)
  have e1 : decide ((300 : Int) < (a.length : Int)) = false := decide_eq_false (by omega)
  have e2 : decide ((300 : Int) < (b.length : Int)) = false := decide_eq_false (by omega)
  have hbT := bytesTyC
  have sa := str_nes a
  have sb := str_eqs a
  obtain ⟨M0, hM0⟩ : ∃ x, x = (⟨[], [], [], -1, 0, [], false, 0, fun _ => ⟨[], 0⟩, 0⟩ : FSs) := ⟨_, rfl⟩
  have HM0 := Lib.hid hM0
  clear hM0
  have RM0 := Lib.hid (show newM = M0 by rw [HM0.out] <;> rfl)
  obtain ⟨M1, hM1⟩ : ∃ x, x = (⟨[(cNew, 0)], [], [.made cNew 0], -1, 0, [], false, 1, fun j => if j = 0 then ⟨a, 0⟩ else (fun j => if j = 0 then ⟨[], 0⟩ else (fun _ => ⟨[], 0⟩) j) j, 1⟩ : FSs) := ⟨_, rfl⟩
  have HM1 := Lib.hid hM1
  clear hM1
  have RM1 := Lib.hid (show appM M0 cNew a = M1 by rw [HM1.out, HM0.out] <;> rfl)
  obtain ⟨M2, hM2⟩ : ∃ x, x = (⟨[(cNew, 0)], [], [.made cNew 0], -1, 0, [], false, 2, fun j => if j = 0 then ⟨a, (a).length⟩ else (fun j => if j = 0 then ⟨a, 0⟩ else (fun j => if j = 0 then ⟨[], 0⟩ else (fun _ => ⟨[], 0⟩) j) j) j, 1⟩ : FSs) := ⟨_, rfl⟩
  have HM2 := Lib.hid hM2
  clear hM2
  have RM2 := Lib.hid (show syncM M1 cNew = M2 by rw [HM2.out, HM1.out] <;> rfl)
  obtain ⟨M3, hM3⟩ : ∃ x, x = (⟨[(cNew, 0)], [], [.made cNew 0], -1, 0, [], false, 2, fun j => if j = 0 then ⟨a, (a).length⟩ else (fun j => if j = 0 then ⟨a, 0⟩ else (fun j => if j = 0 then ⟨[], 0⟩ else (fun _ => ⟨[], 0⟩) j) j) j, 1⟩ : FSs) := ⟨_, rfl⟩
  have HM3 := Lib.hid hM3
  clear hM3
  have RM3 := Lib.hid (show syncM M2 cOld = M3 by rw [HM3.out, HM2.out] <;> rfl)
  obtain ⟨M4, hM4⟩ : ∃ x, x = (⟨[(cNew, 0)], [(cNew, 0)], [], -1, 0, [], false, 3, fun j => if j = 0 then ⟨a, (a).length⟩ else (fun j => if j = 0 then ⟨a, 0⟩ else (fun j => if j = 0 then ⟨[], 0⟩ else (fun _ => ⟨[], 0⟩) j) j) j, 1⟩ : FSs) := ⟨_, rfl⟩
  have HM4 := Lib.hid hM4
  clear hM4
  have RM4 := Lib.hid (show dirM M3 = M4 by rw [HM4.out, HM3.out] <;> rfl)
  have G5 := Lib.hid (show goesB M4 (isB M4 cNew && namedB cOld) = true by rw [HM4.out] <;> rfl)
  obtain ⟨M5, hM5⟩ : ∃ x, x = (⟨[(cOld, 0)], [(cNew, 0)], [.ren cNew cOld 0], -1, 0, [], false, 4, fun j => if j = 0 then ⟨a, (a).length⟩ else (fun j => if j = 0 then ⟨a, 0⟩ else (fun j => if j = 0 then ⟨[], 0⟩ else (fun _ => ⟨[], 0⟩) j) j) j, 1⟩ : FSs) := ⟨_, rfl⟩
  have HM5 := Lib.hid hM5
  clear hM5
  have RM5 := Lib.hid (show renM M4 cNew cOld = M5 by rw [HM5.out, HM4.out] <;> rfl)
  have EX := Lib.hid (show readM M5 cOld = a from (by rw [HM5.out] <;> rfl))
  have IX := Lib.hid (show isB M5 cOld = true from (by rw [HM5.out] <;> rfl))
  have EG := Lib.hid (show readM M5 cNew = [] from (by rw [HM5.out] <;> rfl))
  have IG := Lib.hid (show isB M5 cNew = false from (by rw [HM5.out] <;> rfl))
  obtain ⟨M6, hM6⟩ : ∃ x, x = (⟨[(cOld, 0)], [(cNew, 0)], [.ren cNew cOld 0], 0, 0, [true], false, 4, fun j => if j = 0 then ⟨a, (a).length⟩ else (fun j => if j = 0 then ⟨a, 0⟩ else (fun j => if j = 0 then ⟨[], 0⟩ else (fun _ => ⟨[], 0⟩) j) j) j, 1⟩ : FSs) := ⟨_, rfl⟩
  have HM6 := Lib.hid hM6
  clear hM6
  have RM6 := Lib.hid (show planM M5 0 0 [true] = M6 by rw [HM6.out, HM5.out] <;> rfl)
  have RM6C := Lib.hid (show appM M6 cZ [] = crashM M6 from app_off (by rw [HM6.out] <;> rfl) (by rw [HM6.out] <;> rfl))
  have EY := Lib.hid (show readM (startM (crashM M6)) cOld = a from crash_read (M := M6) (i := 0) (by rw [HM6.out] <;> rfl) (by rw [HM6.out] <;> rfl) (by rw [HM6.out] <;> rfl))
  have IY := Lib.hid (show isB (startM (crashM M6)) cOld = true from crash_isB (M := M6) (i := 0) (by rw [HM6.out] <;> rfl))
  have EW := Lib.hid (show readM (startM (crashM M6)) cNew = [] from crash_read_no (M := M6) (by rw [HM6.out] <;> rfl))
  have IW := Lib.hid (show isB (startM (crashM M6)) cNew = false from crash_isB_no (M := M6) (by rw [HM6.out] <;> rfl))
  go_enter Try.func7, Try.ntmps7
  go_upto_region 21 with (first
    | (go_at_call 9; (with_reducible refine (CA.out _).mono ?_); rintro e w1 ⟨rfl, hb1⟩; have N0 := Lib.hid (New_in (w0 := w) (w := w1) (o := fun _ => none) 0 (fun _ _ => rfl) hb1 (fun _ _ => rfl)))
    | (go_at_call 10; (with_reducible refine N0.out.mono ?_); rintro e w2 ⟨p, o2, rfl, h2, T2⟩; clear T2; rw [RM0.out] at h2)
    | (go_at_call 11; (with_reducible refine (App_in h2 cNew (by decide) _ (a) (HA.out.ext h2.below) (Free.arg h2.base HA.out) (by first | omega | decide) (by omega) (by omega)).mono ?_); rintro e wq1 ⟨rfl, _, hq1, Thq1⟩; clear h2; clear Thq1; rw [RM1.out] at hq1)
    | (go_at_call 13; (with_reducible refine (Sync_in hq1 cNew (by decide) (by omega) (by omega)).mono ?_); rintro e wq2 ⟨rfl, _, hq2, Thq2⟩; clear hq1; clear Thq2; rw [RM2.out] at hq2)
    | (go_at_call 13; (with_reducible refine (Sync_in hq2 cOld (by decide) (by omega) (by omega)).mono ?_); rintro e wq3 ⟨rfl, _, hq3, Thq3⟩; clear hq2; clear Thq3; rw [RM3.out] at hq3)
    | (go_at_call 15; (with_reducible refine (Dir_in hq3 (by omega) (by omega)).mono ?_); rintro e wq4 ⟨rfl, _, hq4, Thq4⟩; clear hq3; clear Thq4; rw [RM4.out] at hq4)
    | (go_at_call 25; (with_reducible refine (Ren_in hq4 cNew cOld (by decide) (by decide) (by omega) (by omega)).mono ?_); rintro e wq5 ⟨he, _, hq5, Thq5⟩; rw [G5.out] at he; subst he; clear hq4; clear Thq5; rw [RM5.out] at hq5)
    | (go_at_call 21; (with_reducible refine (Read_in hq5 cOld (by decide) (by first | omega | (simp only [List.length_nil]; omega))).mono ?_); rintro e wq6 ⟨vX, he, hoX, hbX, hq6⟩; rw [IX.out] at he; subst he; have hrX := read_cast hoX EX.out; clear hoX; obtain ⟨AX, cX, rfl⟩ := row_slC hrX; have BX := Held.own (k := 0) hq5.own hrX; have capX := row_cap hrX; clear hrX; clear hbX; clear hq5)
    | (go_at_call 21; (with_reducible refine (Read_in hq6 cNew (by decide) (by first | omega | (simp only [List.length_nil]; omega))).mono ?_); rintro e wq7 ⟨vG, he, hoG, hbG, hq7⟩; rw [IG.out] at he; subst he; have hrG := read_cast hoG EG.out; clear hoG; obtain ⟨AG, cG, rfl⟩ := row_slC hrG; have BG := Held.own (k := 0) hq6.own hrG; have capG := row_cap hrG; clear hrG; replace BX := BX.ext hbG; clear hbG; clear hq6)
    | ((with_reducible refine gd_rowC ?_); refine wpList_row_val (v := .bool true) rfl (.tmp 71) rfl boolsTy (by decide) rfl rfl ?_; intro wr hxr hbr hlr; have hqr := hq7.ext hbr; have FR := Lib.hid (Free.lit (k := 0) (n := 1) (c := 1) hq7.own); have BR := Lib.hid (show Bools wr (.slice (some ⟨_, 0, none⟩) 1 1) [true] from ⟨_, _, _, rfl, rfl, Nat.le_refl _, by decide, hxr.rd⟩); replace BX := BX.ext hbr; clear BG; clear hq7 hxr hbr)
    | (go_at_call 19; (with_reducible refine (Plan_in hqr 0 0 (_) [true] (by decide) (by decide) (BR.out) (FR.out) (by simp)).mono ?_); rintro e wq8 ⟨rfl, _, hq8, Thq8⟩; clear hqr; replace BX := BX.turn Thq8; clear Thq8; rw [RM6.out] at hq8)
    | (go_at_call 11; (with_reducible refine (App_in hq8 cZ (by decide) (.slice none 0 0) [] (Bytes.nil _) Free.nil (by decide) (by omega) (by omega)).mono ?_); rintro e wq9 ⟨rfl, _, hq9, Thq9⟩; clear hq8; replace BX := BX.turn Thq9; clear Thq9; rw [RM6C.out] at hq9)
    | (go_at_call 20; (with_reducible refine (Start_in hq9).mono ?_); rintro e wq10 ⟨rfl, hq10, Thq10⟩; clear hq9; replace BX := BX.turn Thq10; clear Thq10)
    | (go_at_call 21; (with_reducible refine (Read_in hq10 cOld (by decide) (by first | omega | (simp only [List.length_nil]; omega))).mono ?_); rintro e wq11 ⟨vY, he, hoY, hbY, hq11⟩; rw [IY.out] at he; subst he; have hrY := read_cast hoY EY.out; clear hoY; obtain ⟨AY, cY, rfl⟩ := row_slC hrY; have BY := Held.own (k := 0) hq10.own hrY; have capY := row_cap hrY; clear hrY; replace BX := BX.ext hbY; clear hbY; clear hq10)
    | (go_at_call 21; (with_reducible refine (Read_in hq11 cNew (by decide) (by first | omega | (simp only [List.length_nil]; omega))).mono ?_); rintro e wq12 ⟨vW, he, hoW, hbW, hq12⟩; rw [IW.out] at he; subst he; have hrW := read_cast hoW EW.out; clear hoW; obtain ⟨AW, cW, rfl⟩ := row_slC hrW; have BW := Held.own (k := 0) hq11.own hrW; have capW := row_cap hrW; clear hrW; replace BX := BX.ext hbW; replace BY := BY.ext hbW; clear hbW; clear hq11)
    | fail)
  have HVA := HA.out.ext hq12.below
  have HVB := HB.out.ext hq12.below
  have q1 := run_str (P := Try.prog) (src := 26) (dst := 9) BX.bytes u8sTy u8Ty Try.underlying9
  have q2 := run_str (P := Try.prog) (src := 26) (dst := 9) HVA u8sTy u8Ty Try.underlying9
  have q3 := run_str (P := Try.prog) (src := 26) (dst := 9) BY.bytes u8sTy u8Ty Try.underlying9
  have q4 := run_str (P := Try.prog) (src := 26) (dst := 9) BW.bytes u8sTy u8Ty Try.underlying9
  have hbl := hq12.below
  go_wp2
  go_ret
  exact ⟨by first | rfl | simp [str_eqs, str_nes], hbl⟩

set_option maxRecDepth 100000 in
set_option maxHeartbeats 4000000 in
theorem walk_ftf (va vb : Value) (a b : List UInt8) (w : World) (hva : Bytes w va a) (hvb : Bytes w vb b) (ha : 1 ≤ a.length) (ha3 : a.length ≤ 300) (hb3 : b.length ≤ 300) :
    Calls Try.prog 7 #[va, vb, .bool false, .bool true, .bool false] w fun e w' => e = .returned (.bool true) ∧ Below w.heap.size w w' := by
  have CA := Lib.hid alive_any
  have HA := Lib.hid hva
  have HB := Lib.hid hvb
  obtain ⟨A1, n1, c1, rfl, a1, a2, a3, a4⟩ := id hva
  obtain ⟨A2, n2, c2, rfl, b1, b2, b3, b4⟩ := id hvb
  subst a1 b1
  clear a4 b4 hva hvb
  have e0 : decide ((a.length : Int) < 1) = false := decide_eq_false (by omega)
  have e1 : decide ((300 : Int) < (a.length : Int)) = false := decide_eq_false (by omega)
  have e2 : decide ((300 : Int) < (b.length : Int)) = false := decide_eq_false (by omega)
  have hbT := bytesTyC
  have sa := str_nes a
  have sb := str_eqs a
  obtain ⟨M0, hM0⟩ : ∃ x, x = (⟨[], [], [], -1, 0, [], false, 0, fun _ => ⟨[], 0⟩, 0⟩ : FSs) := ⟨_, rfl⟩
  have HM0 := Lib.hid hM0
  clear hM0
  have RM0 := Lib.hid (show newM = M0 by rw [HM0.out] <;> rfl)
  obtain ⟨M1, hM1⟩ : ∃ x, x = (⟨[(cNew, 0)], [], [.made cNew 0], -1, 0, [], false, 1, fun j => if j = 0 then ⟨a, 0⟩ else (fun j => if j = 0 then ⟨[], 0⟩ else (fun _ => ⟨[], 0⟩) j) j, 1⟩ : FSs) := ⟨_, rfl⟩
  have HM1 := Lib.hid hM1
  clear hM1
  have RM1 := Lib.hid (show appM M0 cNew a = M1 by rw [HM1.out, HM0.out] <;> rfl)
  obtain ⟨M2, hM2⟩ : ∃ x, x = (⟨[(cNew, 0)], [], [.made cNew 0], -1, 0, [], false, 2, fun j => if j = 0 then ⟨a, (a).length⟩ else (fun j => if j = 0 then ⟨a, 0⟩ else (fun j => if j = 0 then ⟨[], 0⟩ else (fun _ => ⟨[], 0⟩) j) j) j, 1⟩ : FSs) := ⟨_, rfl⟩
  have HM2 := Lib.hid hM2
  clear hM2
  have RM2 := Lib.hid (show syncM M1 cNew = M2 by rw [HM2.out, HM1.out] <;> rfl)
  obtain ⟨M3, hM3⟩ : ∃ x, x = (⟨[(cNew, 0)], [], [.made cNew 0], -1, 0, [], false, 2, fun j => if j = 0 then ⟨a, (a).length⟩ else (fun j => if j = 0 then ⟨a, 0⟩ else (fun j => if j = 0 then ⟨[], 0⟩ else (fun _ => ⟨[], 0⟩) j) j) j, 1⟩ : FSs) := ⟨_, rfl⟩
  have HM3 := Lib.hid hM3
  clear hM3
  have RM3 := Lib.hid (show syncM M2 cOld = M3 by rw [HM3.out, HM2.out] <;> rfl)
  obtain ⟨M4, hM4⟩ : ∃ x, x = (⟨[(cNew, 0)], [(cNew, 0)], [], -1, 0, [], false, 3, fun j => if j = 0 then ⟨a, (a).length⟩ else (fun j => if j = 0 then ⟨a, 0⟩ else (fun j => if j = 0 then ⟨[], 0⟩ else (fun _ => ⟨[], 0⟩) j) j) j, 1⟩ : FSs) := ⟨_, rfl⟩
  have HM4 := Lib.hid hM4
  clear hM4
  have RM4 := Lib.hid (show dirM M3 = M4 by rw [HM4.out, HM3.out] <;> rfl)
  have G5 := Lib.hid (show goesB M4 (isB M4 cNew && namedB cOld) = true by rw [HM4.out] <;> rfl)
  obtain ⟨M5, hM5⟩ : ∃ x, x = (⟨[(cOld, 0)], [(cNew, 0)], [.ren cNew cOld 0], -1, 0, [], false, 4, fun j => if j = 0 then ⟨a, (a).length⟩ else (fun j => if j = 0 then ⟨a, 0⟩ else (fun j => if j = 0 then ⟨[], 0⟩ else (fun _ => ⟨[], 0⟩) j) j) j, 1⟩ : FSs) := ⟨_, rfl⟩
  have HM5 := Lib.hid hM5
  clear hM5
  have RM5 := Lib.hid (show renM M4 cNew cOld = M5 by rw [HM5.out, HM4.out] <;> rfl)
  obtain ⟨M6, hM6⟩ : ∃ x, x = (⟨[(cOld, 0)], [(cOld, 0)], [], -1, 0, [], false, 5, fun j => if j = 0 then ⟨a, (a).length⟩ else (fun j => if j = 0 then ⟨a, 0⟩ else (fun j => if j = 0 then ⟨[], 0⟩ else (fun _ => ⟨[], 0⟩) j) j) j, 1⟩ : FSs) := ⟨_, rfl⟩
  have HM6 := Lib.hid hM6
  clear hM6
  have RM6 := Lib.hid (show dirM M5 = M6 by rw [HM6.out, HM5.out] <;> rfl)
  have EX := Lib.hid (show readM M6 cOld = a from (by rw [HM6.out] <;> rfl))
  have IX := Lib.hid (show isB M6 cOld = true from (by rw [HM6.out] <;> rfl))
  have EG := Lib.hid (show readM M6 cNew = [] from (by rw [HM6.out] <;> rfl))
  have IG := Lib.hid (show isB M6 cNew = false from (by rw [HM6.out] <;> rfl))
  obtain ⟨M7, hM7⟩ : ∃ x, x = (⟨[(cOld, 0)], [(cOld, 0)], [], 0, 0, [false], false, 5, fun j => if j = 0 then ⟨a, (a).length⟩ else (fun j => if j = 0 then ⟨a, 0⟩ else (fun j => if j = 0 then ⟨[], 0⟩ else (fun _ => ⟨[], 0⟩) j) j) j, 1⟩ : FSs) := ⟨_, rfl⟩
  have HM7 := Lib.hid hM7
  clear hM7
  have RM7 := Lib.hid (show planM M6 0 0 [false] = M7 by rw [HM7.out, HM6.out] <;> rfl)
  have RM7C := Lib.hid (show appM M7 cZ [] = crashM M7 from app_off (by rw [HM7.out] <;> rfl) (by rw [HM7.out] <;> rfl))
  have EY := Lib.hid (show readM (startM (crashM M7)) cOld = a from crash_read (M := M7) (i := 0) (by rw [HM7.out] <;> rfl) (by rw [HM7.out] <;> rfl) (by rw [HM7.out] <;> rfl))
  have IY := Lib.hid (show isB (startM (crashM M7)) cOld = true from crash_isB (M := M7) (i := 0) (by rw [HM7.out] <;> rfl))
  have EW := Lib.hid (show readM (startM (crashM M7)) cNew = [] from crash_read_no (M := M7) (by rw [HM7.out] <;> rfl))
  have IW := Lib.hid (show isB (startM (crashM M7)) cNew = false from crash_isB_no (M := M7) (by rw [HM7.out] <;> rfl))
  go_enter Try.func7, Try.ntmps7
  go_upto_region 21 with (first
    | (go_at_call 9; (with_reducible refine (CA.out _).mono ?_); rintro e w1 ⟨rfl, hb1⟩; have N0 := Lib.hid (New_in (w0 := w) (w := w1) (o := fun _ => none) 0 (fun _ _ => rfl) hb1 (fun _ _ => rfl)))
    | (go_at_call 10; (with_reducible refine N0.out.mono ?_); rintro e w2 ⟨p, o2, rfl, h2, T2⟩; clear T2; rw [RM0.out] at h2)
    | (go_at_call 11; (with_reducible refine (App_in h2 cNew (by decide) _ (a) (HA.out.ext h2.below) (Free.arg h2.base HA.out) (by first | omega | decide) (by omega) (by omega)).mono ?_); rintro e wq1 ⟨rfl, _, hq1, Thq1⟩; clear h2; clear Thq1; rw [RM1.out] at hq1)
    | (go_at_call 13; (with_reducible refine (Sync_in hq1 cNew (by decide) (by omega) (by omega)).mono ?_); rintro e wq2 ⟨rfl, _, hq2, Thq2⟩; clear hq1; clear Thq2; rw [RM2.out] at hq2)
    | (go_at_call 13; (with_reducible refine (Sync_in hq2 cOld (by decide) (by omega) (by omega)).mono ?_); rintro e wq3 ⟨rfl, _, hq3, Thq3⟩; clear hq2; clear Thq3; rw [RM3.out] at hq3)
    | (go_at_call 15; (with_reducible refine (Dir_in hq3 (by omega) (by omega)).mono ?_); rintro e wq4 ⟨rfl, _, hq4, Thq4⟩; clear hq3; clear Thq4; rw [RM4.out] at hq4)
    | (go_at_call 25; (with_reducible refine (Ren_in hq4 cNew cOld (by decide) (by decide) (by omega) (by omega)).mono ?_); rintro e wq5 ⟨he, _, hq5, Thq5⟩; rw [G5.out] at he; subst he; clear hq4; clear Thq5; rw [RM5.out] at hq5)
    | (go_at_call 15; (with_reducible refine (Dir_in hq5 (by omega) (by omega)).mono ?_); rintro e wq6 ⟨rfl, _, hq6, Thq6⟩; clear hq5; clear Thq6; rw [RM6.out] at hq6)
    | (go_at_call 21; (with_reducible refine (Read_in hq6 cOld (by decide) (by first | omega | (simp only [List.length_nil]; omega))).mono ?_); rintro e wq7 ⟨vX, he, hoX, hbX, hq7⟩; rw [IX.out] at he; subst he; have hrX := read_cast hoX EX.out; clear hoX; obtain ⟨AX, cX, rfl⟩ := row_slC hrX; have BX := Held.own (k := 0) hq6.own hrX; have capX := row_cap hrX; clear hrX; clear hbX; clear hq6)
    | (go_at_call 21; (with_reducible refine (Read_in hq7 cNew (by decide) (by first | omega | (simp only [List.length_nil]; omega))).mono ?_); rintro e wq8 ⟨vG, he, hoG, hbG, hq8⟩; rw [IG.out] at he; subst he; have hrG := read_cast hoG EG.out; clear hoG; obtain ⟨AG, cG, rfl⟩ := row_slC hrG; have BG := Held.own (k := 0) hq7.own hrG; have capG := row_cap hrG; clear hrG; replace BX := BX.ext hbG; clear hbG; clear hq7)
    | ((with_reducible refine gd_rowC ?_); refine wpList_row_val (v := .bool false) rfl (.tmp 71) rfl boolsTy (by decide) rfl rfl ?_; intro wr hxr hbr hlr; have hqr := hq8.ext hbr; have FR := Lib.hid (Free.lit (k := 0) (n := 1) (c := 1) hq8.own); have BR := Lib.hid (show Bools wr (.slice (some ⟨_, 0, none⟩) 1 1) [false] from ⟨_, _, _, rfl, rfl, Nat.le_refl _, by decide, hxr.rd⟩); replace BX := BX.ext hbr; clear BG; clear hq8 hxr hbr)
    | (go_at_call 19; (with_reducible refine (Plan_in hqr 0 0 (_) [false] (by decide) (by decide) (BR.out) (FR.out) (by simp)).mono ?_); rintro e wq9 ⟨rfl, _, hq9, Thq9⟩; clear hqr; replace BX := BX.turn Thq9; clear Thq9; rw [RM7.out] at hq9)
    | (go_at_call 11; (with_reducible refine (App_in hq9 cZ (by decide) (.slice none 0 0) [] (Bytes.nil _) Free.nil (by decide) (by omega) (by omega)).mono ?_); rintro e wq10 ⟨rfl, _, hq10, Thq10⟩; clear hq9; replace BX := BX.turn Thq10; clear Thq10; rw [RM7C.out] at hq10)
    | (go_at_call 20; (with_reducible refine (Start_in hq10).mono ?_); rintro e wq11 ⟨rfl, hq11, Thq11⟩; clear hq10; replace BX := BX.turn Thq11; clear Thq11)
    | (go_at_call 21; (with_reducible refine (Read_in hq11 cOld (by decide) (by first | omega | (simp only [List.length_nil]; omega))).mono ?_); rintro e wq12 ⟨vY, he, hoY, hbY, hq12⟩; rw [IY.out] at he; subst he; have hrY := read_cast hoY EY.out; clear hoY; obtain ⟨AY, cY, rfl⟩ := row_slC hrY; have BY := Held.own (k := 0) hq11.own hrY; have capY := row_cap hrY; clear hrY; replace BX := BX.ext hbY; clear hbY; clear hq11)
    | (go_at_call 21; (with_reducible refine (Read_in hq12 cNew (by decide) (by first | omega | (simp only [List.length_nil]; omega))).mono ?_); rintro e wq13 ⟨vW, he, hoW, hbW, hq13⟩; rw [IW.out] at he; subst he; have hrW := read_cast hoW EW.out; clear hoW; obtain ⟨AW, cW, rfl⟩ := row_slC hrW; have BW := Held.own (k := 0) hq12.own hrW; have capW := row_cap hrW; clear hrW; replace BX := BX.ext hbW; replace BY := BY.ext hbW; clear hbW; clear hq12)
    | fail)
  have HVA := HA.out.ext hq13.below
  have HVB := HB.out.ext hq13.below
  have q1 := run_str (P := Try.prog) (src := 26) (dst := 9) BX.bytes u8sTy u8Ty Try.underlying9
  have q2 := run_str (P := Try.prog) (src := 26) (dst := 9) HVA u8sTy u8Ty Try.underlying9
  have q3 := run_str (P := Try.prog) (src := 26) (dst := 9) BY.bytes u8sTy u8Ty Try.underlying9
  have q4 := run_str (P := Try.prog) (src := 26) (dst := 9) BW.bytes u8sTy u8Ty Try.underlying9
  have hbl := hq13.below
  go_wp2
  go_ret
  exact ⟨by first | rfl | simp [str_eqs, str_nes], hbl⟩

set_option maxRecDepth 100000 in
set_option maxHeartbeats 4000000 in
theorem walk_ftt (va vb : Value) (a b : List UInt8) (w : World) (hva : Bytes w va a) (hvb : Bytes w vb b) (ha : 1 ≤ a.length) (ha3 : a.length ≤ 300) (hb3 : b.length ≤ 300) :
    Calls Try.prog 7 #[va, vb, .bool false, .bool true, .bool true] w fun e w' => e = .returned (.bool true) ∧ Below w.heap.size w w' := by
  have CA := Lib.hid alive_any
  have HA := Lib.hid hva
  have HB := Lib.hid hvb
  obtain ⟨A1, n1, c1, rfl, a1, a2, a3, a4⟩ := id hva
  obtain ⟨A2, n2, c2, rfl, b1, b2, b3, b4⟩ := id hvb
  subst a1 b1
  clear a4 b4 hva hvb
  have e0 : decide ((a.length : Int) < 1) = false := decide_eq_false (by omega)
  have e1 : decide ((300 : Int) < (a.length : Int)) = false := decide_eq_false (by omega)
  have e2 : decide ((300 : Int) < (b.length : Int)) = false := decide_eq_false (by omega)
  have hbT := bytesTyC
  have sa := str_nes a
  have sb := str_eqs a
  obtain ⟨M0, hM0⟩ : ∃ x, x = (⟨[], [], [], -1, 0, [], false, 0, fun _ => ⟨[], 0⟩, 0⟩ : FSs) := ⟨_, rfl⟩
  have HM0 := Lib.hid hM0
  clear hM0
  have RM0 := Lib.hid (show newM = M0 by rw [HM0.out] <;> rfl)
  obtain ⟨M1, hM1⟩ : ∃ x, x = (⟨[(cNew, 0)], [], [.made cNew 0], -1, 0, [], false, 1, fun j => if j = 0 then ⟨a, 0⟩ else (fun j => if j = 0 then ⟨[], 0⟩ else (fun _ => ⟨[], 0⟩) j) j, 1⟩ : FSs) := ⟨_, rfl⟩
  have HM1 := Lib.hid hM1
  clear hM1
  have RM1 := Lib.hid (show appM M0 cNew a = M1 by rw [HM1.out, HM0.out] <;> rfl)
  obtain ⟨M2, hM2⟩ : ∃ x, x = (⟨[(cNew, 0)], [], [.made cNew 0], -1, 0, [], false, 2, fun j => if j = 0 then ⟨a, (a).length⟩ else (fun j => if j = 0 then ⟨a, 0⟩ else (fun j => if j = 0 then ⟨[], 0⟩ else (fun _ => ⟨[], 0⟩) j) j) j, 1⟩ : FSs) := ⟨_, rfl⟩
  have HM2 := Lib.hid hM2
  clear hM2
  have RM2 := Lib.hid (show syncM M1 cNew = M2 by rw [HM2.out, HM1.out] <;> rfl)
  obtain ⟨M3, hM3⟩ : ∃ x, x = (⟨[(cNew, 0)], [], [.made cNew 0], -1, 0, [], false, 2, fun j => if j = 0 then ⟨a, (a).length⟩ else (fun j => if j = 0 then ⟨a, 0⟩ else (fun j => if j = 0 then ⟨[], 0⟩ else (fun _ => ⟨[], 0⟩) j) j) j, 1⟩ : FSs) := ⟨_, rfl⟩
  have HM3 := Lib.hid hM3
  clear hM3
  have RM3 := Lib.hid (show syncM M2 cOld = M3 by rw [HM3.out, HM2.out] <;> rfl)
  obtain ⟨M4, hM4⟩ : ∃ x, x = (⟨[(cNew, 0)], [(cNew, 0)], [], -1, 0, [], false, 3, fun j => if j = 0 then ⟨a, (a).length⟩ else (fun j => if j = 0 then ⟨a, 0⟩ else (fun j => if j = 0 then ⟨[], 0⟩ else (fun _ => ⟨[], 0⟩) j) j) j, 1⟩ : FSs) := ⟨_, rfl⟩
  have HM4 := Lib.hid hM4
  clear hM4
  have RM4 := Lib.hid (show dirM M3 = M4 by rw [HM4.out, HM3.out] <;> rfl)
  have G5 := Lib.hid (show goesB M4 (isB M4 cNew && namedB cOld) = true by rw [HM4.out] <;> rfl)
  obtain ⟨M5, hM5⟩ : ∃ x, x = (⟨[(cOld, 0)], [(cNew, 0)], [.ren cNew cOld 0], -1, 0, [], false, 4, fun j => if j = 0 then ⟨a, (a).length⟩ else (fun j => if j = 0 then ⟨a, 0⟩ else (fun j => if j = 0 then ⟨[], 0⟩ else (fun _ => ⟨[], 0⟩) j) j) j, 1⟩ : FSs) := ⟨_, rfl⟩
  have HM5 := Lib.hid hM5
  clear hM5
  have RM5 := Lib.hid (show renM M4 cNew cOld = M5 by rw [HM5.out, HM4.out] <;> rfl)
  obtain ⟨M6, hM6⟩ : ∃ x, x = (⟨[(cOld, 0)], [(cOld, 0)], [], -1, 0, [], false, 5, fun j => if j = 0 then ⟨a, (a).length⟩ else (fun j => if j = 0 then ⟨a, 0⟩ else (fun j => if j = 0 then ⟨[], 0⟩ else (fun _ => ⟨[], 0⟩) j) j) j, 1⟩ : FSs) := ⟨_, rfl⟩
  have HM6 := Lib.hid hM6
  clear hM6
  have RM6 := Lib.hid (show dirM M5 = M6 by rw [HM6.out, HM5.out] <;> rfl)
  have EX := Lib.hid (show readM M6 cOld = a from (by rw [HM6.out] <;> rfl))
  have IX := Lib.hid (show isB M6 cOld = true from (by rw [HM6.out] <;> rfl))
  have EG := Lib.hid (show readM M6 cNew = [] from (by rw [HM6.out] <;> rfl))
  have IG := Lib.hid (show isB M6 cNew = false from (by rw [HM6.out] <;> rfl))
  obtain ⟨M7, hM7⟩ : ∃ x, x = (⟨[(cOld, 0)], [(cOld, 0)], [], 0, 0, [true], false, 5, fun j => if j = 0 then ⟨a, (a).length⟩ else (fun j => if j = 0 then ⟨a, 0⟩ else (fun j => if j = 0 then ⟨[], 0⟩ else (fun _ => ⟨[], 0⟩) j) j) j, 1⟩ : FSs) := ⟨_, rfl⟩
  have HM7 := Lib.hid hM7
  clear hM7
  have RM7 := Lib.hid (show planM M6 0 0 [true] = M7 by rw [HM7.out, HM6.out] <;> rfl)
  have RM7C := Lib.hid (show appM M7 cZ [] = crashM M7 from app_off (by rw [HM7.out] <;> rfl) (by rw [HM7.out] <;> rfl))
  have EY := Lib.hid (show readM (startM (crashM M7)) cOld = a from crash_read (M := M7) (i := 0) (by rw [HM7.out] <;> rfl) (by rw [HM7.out] <;> rfl) (by rw [HM7.out] <;> rfl))
  have IY := Lib.hid (show isB (startM (crashM M7)) cOld = true from crash_isB (M := M7) (i := 0) (by rw [HM7.out] <;> rfl))
  have EW := Lib.hid (show readM (startM (crashM M7)) cNew = [] from crash_read_no (M := M7) (by rw [HM7.out] <;> rfl))
  have IW := Lib.hid (show isB (startM (crashM M7)) cNew = false from crash_isB_no (M := M7) (by rw [HM7.out] <;> rfl))
  go_enter Try.func7, Try.ntmps7
  go_upto_region 21 with (first
    | (go_at_call 9; (with_reducible refine (CA.out _).mono ?_); rintro e w1 ⟨rfl, hb1⟩; have N0 := Lib.hid (New_in (w0 := w) (w := w1) (o := fun _ => none) 0 (fun _ _ => rfl) hb1 (fun _ _ => rfl)))
    | (go_at_call 10; (with_reducible refine N0.out.mono ?_); rintro e w2 ⟨p, o2, rfl, h2, T2⟩; clear T2; rw [RM0.out] at h2)
    | (go_at_call 11; (with_reducible refine (App_in h2 cNew (by decide) _ (a) (HA.out.ext h2.below) (Free.arg h2.base HA.out) (by first | omega | decide) (by omega) (by omega)).mono ?_); rintro e wq1 ⟨rfl, _, hq1, Thq1⟩; clear h2; clear Thq1; rw [RM1.out] at hq1)
    | (go_at_call 13; (with_reducible refine (Sync_in hq1 cNew (by decide) (by omega) (by omega)).mono ?_); rintro e wq2 ⟨rfl, _, hq2, Thq2⟩; clear hq1; clear Thq2; rw [RM2.out] at hq2)
    | (go_at_call 13; (with_reducible refine (Sync_in hq2 cOld (by decide) (by omega) (by omega)).mono ?_); rintro e wq3 ⟨rfl, _, hq3, Thq3⟩; clear hq2; clear Thq3; rw [RM3.out] at hq3)
    | (go_at_call 15; (with_reducible refine (Dir_in hq3 (by omega) (by omega)).mono ?_); rintro e wq4 ⟨rfl, _, hq4, Thq4⟩; clear hq3; clear Thq4; rw [RM4.out] at hq4)
    | (go_at_call 25; (with_reducible refine (Ren_in hq4 cNew cOld (by decide) (by decide) (by omega) (by omega)).mono ?_); rintro e wq5 ⟨he, _, hq5, Thq5⟩; rw [G5.out] at he; subst he; clear hq4; clear Thq5; rw [RM5.out] at hq5)
    | (go_at_call 15; (with_reducible refine (Dir_in hq5 (by omega) (by omega)).mono ?_); rintro e wq6 ⟨rfl, _, hq6, Thq6⟩; clear hq5; clear Thq6; rw [RM6.out] at hq6)
    | (go_at_call 21; (with_reducible refine (Read_in hq6 cOld (by decide) (by first | omega | (simp only [List.length_nil]; omega))).mono ?_); rintro e wq7 ⟨vX, he, hoX, hbX, hq7⟩; rw [IX.out] at he; subst he; have hrX := read_cast hoX EX.out; clear hoX; obtain ⟨AX, cX, rfl⟩ := row_slC hrX; have BX := Held.own (k := 0) hq6.own hrX; have capX := row_cap hrX; clear hrX; clear hbX; clear hq6)
    | (go_at_call 21; (with_reducible refine (Read_in hq7 cNew (by decide) (by first | omega | (simp only [List.length_nil]; omega))).mono ?_); rintro e wq8 ⟨vG, he, hoG, hbG, hq8⟩; rw [IG.out] at he; subst he; have hrG := read_cast hoG EG.out; clear hoG; obtain ⟨AG, cG, rfl⟩ := row_slC hrG; have BG := Held.own (k := 0) hq7.own hrG; have capG := row_cap hrG; clear hrG; replace BX := BX.ext hbG; clear hbG; clear hq7)
    | ((with_reducible refine gd_rowC ?_); refine wpList_row_val (v := .bool true) rfl (.tmp 71) rfl boolsTy (by decide) rfl rfl ?_; intro wr hxr hbr hlr; have hqr := hq8.ext hbr; have FR := Lib.hid (Free.lit (k := 0) (n := 1) (c := 1) hq8.own); have BR := Lib.hid (show Bools wr (.slice (some ⟨_, 0, none⟩) 1 1) [true] from ⟨_, _, _, rfl, rfl, Nat.le_refl _, by decide, hxr.rd⟩); replace BX := BX.ext hbr; clear BG; clear hq8 hxr hbr)
    | (go_at_call 19; (with_reducible refine (Plan_in hqr 0 0 (_) [true] (by decide) (by decide) (BR.out) (FR.out) (by simp)).mono ?_); rintro e wq9 ⟨rfl, _, hq9, Thq9⟩; clear hqr; replace BX := BX.turn Thq9; clear Thq9; rw [RM7.out] at hq9)
    | (go_at_call 11; (with_reducible refine (App_in hq9 cZ (by decide) (.slice none 0 0) [] (Bytes.nil _) Free.nil (by decide) (by omega) (by omega)).mono ?_); rintro e wq10 ⟨rfl, _, hq10, Thq10⟩; clear hq9; replace BX := BX.turn Thq10; clear Thq10; rw [RM7C.out] at hq10)
    | (go_at_call 20; (with_reducible refine (Start_in hq10).mono ?_); rintro e wq11 ⟨rfl, hq11, Thq11⟩; clear hq10; replace BX := BX.turn Thq11; clear Thq11)
    | (go_at_call 21; (with_reducible refine (Read_in hq11 cOld (by decide) (by first | omega | (simp only [List.length_nil]; omega))).mono ?_); rintro e wq12 ⟨vY, he, hoY, hbY, hq12⟩; rw [IY.out] at he; subst he; have hrY := read_cast hoY EY.out; clear hoY; obtain ⟨AY, cY, rfl⟩ := row_slC hrY; have BY := Held.own (k := 0) hq11.own hrY; have capY := row_cap hrY; clear hrY; replace BX := BX.ext hbY; clear hbY; clear hq11)
    | (go_at_call 21; (with_reducible refine (Read_in hq12 cNew (by decide) (by first | omega | (simp only [List.length_nil]; omega))).mono ?_); rintro e wq13 ⟨vW, he, hoW, hbW, hq13⟩; rw [IW.out] at he; subst he; have hrW := read_cast hoW EW.out; clear hoW; obtain ⟨AW, cW, rfl⟩ := row_slC hrW; have BW := Held.own (k := 0) hq12.own hrW; have capW := row_cap hrW; clear hrW; replace BX := BX.ext hbW; replace BY := BY.ext hbW; clear hbW; clear hq12)
    | fail)
  have HVA := HA.out.ext hq13.below
  have HVB := HB.out.ext hq13.below
  have q1 := run_str (P := Try.prog) (src := 26) (dst := 9) BX.bytes u8sTy u8Ty Try.underlying9
  have q2 := run_str (P := Try.prog) (src := 26) (dst := 9) HVA u8sTy u8Ty Try.underlying9
  have q3 := run_str (P := Try.prog) (src := 26) (dst := 9) BY.bytes u8sTy u8Ty Try.underlying9
  have q4 := run_str (P := Try.prog) (src := 26) (dst := 9) BW.bytes u8sTy u8Ty Try.underlying9
  have hbl := hq13.below
  go_wp2
  go_ret
  exact ⟨by first | rfl | simp [str_eqs, str_nes], hbl⟩

set_option maxRecDepth 100000 in
set_option maxHeartbeats 4000000 in
theorem walk_tff (va vb : Value) (a b : List UInt8) (w : World) (hva : Bytes w va a) (hvb : Bytes w vb b) (ha : 1 ≤ a.length) (ha3 : a.length ≤ 300) (hb3 : b.length ≤ 300) :
    Calls Try.prog 7 #[va, vb, .bool true, .bool false, .bool false] w fun e w' => e = .returned (.bool true) ∧ Below w.heap.size w w' := by
  have CA := Lib.hid alive_any
  have HA := Lib.hid hva
  have HB := Lib.hid hvb
  obtain ⟨A1, n1, c1, rfl, a1, a2, a3, a4⟩ := id hva
  obtain ⟨A2, n2, c2, rfl, b1, b2, b3, b4⟩ := id hvb
  subst a1 b1
  clear a4 b4 hva hvb
  have e0 : decide ((a.length : Int) < 1) = false := decide_eq_false (by omega)
  have e1 : decide ((300 : Int) < (a.length : Int)) = false := decide_eq_false (by omega)
  have e2 : decide ((300 : Int) < (b.length : Int)) = false := decide_eq_false (by omega)
  have hbT := bytesTyC
  have sa := str_nes a
  have sb := str_eqs a
  obtain ⟨M0, hM0⟩ : ∃ x, x = (⟨[], [], [], -1, 0, [], false, 0, fun _ => ⟨[], 0⟩, 0⟩ : FSs) := ⟨_, rfl⟩
  have HM0 := Lib.hid hM0
  clear hM0
  have RM0 := Lib.hid (show newM = M0 by rw [HM0.out] <;> rfl)
  obtain ⟨M1, hM1⟩ : ∃ x, x = (⟨[(cNew, 0)], [], [.made cNew 0], -1, 0, [], false, 1, fun j => if j = 0 then ⟨a, 0⟩ else (fun j => if j = 0 then ⟨[], 0⟩ else (fun _ => ⟨[], 0⟩) j) j, 1⟩ : FSs) := ⟨_, rfl⟩
  have HM1 := Lib.hid hM1
  clear hM1
  have RM1 := Lib.hid (show appM M0 cNew a = M1 by rw [HM1.out, HM0.out] <;> rfl)
  obtain ⟨M2, hM2⟩ : ∃ x, x = (⟨[(cNew, 0), (cOld, 1)], [], [.made cNew 0, .made cOld 1], -1, 0, [], false, 2, fun j => if j = 1 then ⟨b, 0⟩ else (fun j => if j = 1 then ⟨[], 0⟩ else (fun j => if j = 0 then ⟨a, 0⟩ else (fun j => if j = 0 then ⟨[], 0⟩ else (fun _ => ⟨[], 0⟩) j) j) j) j, 2⟩ : FSs) := ⟨_, rfl⟩
  have HM2 := Lib.hid hM2
  clear hM2
  have RM2 := Lib.hid (show appM M1 cOld b = M2 by rw [HM2.out, HM1.out] <;> rfl)
  obtain ⟨M3, hM3⟩ : ∃ x, x = (⟨[(cNew, 0), (cOld, 1)], [], [.made cNew 0, .made cOld 1], -1, 0, [], false, 3, fun j => if j = 0 then ⟨a, (a).length⟩ else (fun j => if j = 1 then ⟨b, 0⟩ else (fun j => if j = 1 then ⟨[], 0⟩ else (fun j => if j = 0 then ⟨a, 0⟩ else (fun j => if j = 0 then ⟨[], 0⟩ else (fun _ => ⟨[], 0⟩) j) j) j) j) j, 2⟩ : FSs) := ⟨_, rfl⟩
  have HM3 := Lib.hid hM3
  clear hM3
  have RM3 := Lib.hid (show syncM M2 cNew = M3 by rw [HM3.out, HM2.out] <;> rfl)
  obtain ⟨M4, hM4⟩ : ∃ x, x = (⟨[(cNew, 0), (cOld, 1)], [], [.made cNew 0, .made cOld 1], -1, 0, [], false, 4, fun j => if j = 1 then ⟨b, (b).length⟩ else (fun j => if j = 0 then ⟨a, (a).length⟩ else (fun j => if j = 1 then ⟨b, 0⟩ else (fun j => if j = 1 then ⟨[], 0⟩ else (fun j => if j = 0 then ⟨a, 0⟩ else (fun j => if j = 0 then ⟨[], 0⟩ else (fun _ => ⟨[], 0⟩) j) j) j) j) j) j, 2⟩ : FSs) := ⟨_, rfl⟩
  have HM4 := Lib.hid hM4
  clear hM4
  have RM4 := Lib.hid (show syncM M3 cOld = M4 by rw [HM4.out, HM3.out] <;> rfl)
  obtain ⟨M5, hM5⟩ : ∃ x, x = (⟨[(cNew, 0), (cOld, 1)], [(cNew, 0), (cOld, 1)], [], -1, 0, [], false, 5, fun j => if j = 1 then ⟨b, (b).length⟩ else (fun j => if j = 0 then ⟨a, (a).length⟩ else (fun j => if j = 1 then ⟨b, 0⟩ else (fun j => if j = 1 then ⟨[], 0⟩ else (fun j => if j = 0 then ⟨a, 0⟩ else (fun j => if j = 0 then ⟨[], 0⟩ else (fun _ => ⟨[], 0⟩) j) j) j) j) j) j, 2⟩ : FSs) := ⟨_, rfl⟩
  have HM5 := Lib.hid hM5
  clear hM5
  have RM5 := Lib.hid (show dirM M4 = M5 by rw [HM5.out, HM4.out] <;> rfl)
  have G6 := Lib.hid (show goesB M5 (isB M5 cNew && namedB cOld) = true by rw [HM5.out] <;> rfl)
  obtain ⟨M6, hM6⟩ : ∃ x, x = (⟨[(cOld, 0)], [(cNew, 0), (cOld, 1)], [.ren cNew cOld 0], -1, 0, [], false, 6, fun j => if j = 1 then ⟨b, (b).length⟩ else (fun j => if j = 0 then ⟨a, (a).length⟩ else (fun j => if j = 1 then ⟨b, 0⟩ else (fun j => if j = 1 then ⟨[], 0⟩ else (fun j => if j = 0 then ⟨a, 0⟩ else (fun j => if j = 0 then ⟨[], 0⟩ else (fun _ => ⟨[], 0⟩) j) j) j) j) j) j, 2⟩ : FSs) := ⟨_, rfl⟩
  have HM6 := Lib.hid hM6
  clear hM6
  have RM6 := Lib.hid (show renM M5 cNew cOld = M6 by rw [HM6.out, HM5.out] <;> rfl)
  have EX := Lib.hid (show readM M6 cOld = a from (by rw [HM6.out] <;> rfl))
  have IX := Lib.hid (show isB M6 cOld = true from (by rw [HM6.out] <;> rfl))
  have EG := Lib.hid (show readM M6 cNew = [] from (by rw [HM6.out] <;> rfl))
  have IG := Lib.hid (show isB M6 cNew = false from (by rw [HM6.out] <;> rfl))
  obtain ⟨M7, hM7⟩ : ∃ x, x = (⟨[(cOld, 0)], [(cNew, 0), (cOld, 1)], [.ren cNew cOld 0], 0, 0, [false], false, 6, fun j => if j = 1 then ⟨b, (b).length⟩ else (fun j => if j = 0 then ⟨a, (a).length⟩ else (fun j => if j = 1 then ⟨b, 0⟩ else (fun j => if j = 1 then ⟨[], 0⟩ else (fun j => if j = 0 then ⟨a, 0⟩ else (fun j => if j = 0 then ⟨[], 0⟩ else (fun _ => ⟨[], 0⟩) j) j) j) j) j) j, 2⟩ : FSs) := ⟨_, rfl⟩
  have HM7 := Lib.hid hM7
  clear hM7
  have RM7 := Lib.hid (show planM M6 0 0 [false] = M7 by rw [HM7.out, HM6.out] <;> rfl)
  have RM7C := Lib.hid (show appM M7 cZ [] = crashM M7 from app_off (by rw [HM7.out] <;> rfl) (by rw [HM7.out] <;> rfl))
  have EY := Lib.hid (show readM (startM (crashM M7)) cOld = b from crash_read (M := M7) (i := 1) (by rw [HM7.out] <;> rfl) (by rw [HM7.out] <;> rfl) (by rw [HM7.out] <;> rfl))
  have IY := Lib.hid (show isB (startM (crashM M7)) cOld = true from crash_isB (M := M7) (i := 1) (by rw [HM7.out] <;> rfl))
  have EW := Lib.hid (show readM (startM (crashM M7)) cNew = a from crash_read (M := M7) (i := 0) (by rw [HM7.out] <;> rfl) (by rw [HM7.out] <;> rfl) (by rw [HM7.out] <;> rfl))
  have IW := Lib.hid (show isB (startM (crashM M7)) cNew = true from crash_isB (M := M7) (i := 0) (by rw [HM7.out] <;> rfl))
  go_enter Try.func7, Try.ntmps7
  go_upto_region 21 with (first
    | (go_at_call 9; (with_reducible refine (CA.out _).mono ?_); rintro e w1 ⟨rfl, hb1⟩; have N0 := Lib.hid (New_in (w0 := w) (w := w1) (o := fun _ => none) 0 (fun _ _ => rfl) hb1 (fun _ _ => rfl)))
    | (go_at_call 10; (with_reducible refine N0.out.mono ?_); rintro e w2 ⟨p, o2, rfl, h2, T2⟩; clear T2; rw [RM0.out] at h2)
    | (go_at_call 11; (with_reducible refine (App_in h2 cNew (by decide) _ (a) (HA.out.ext h2.below) (Free.arg h2.base HA.out) (by first | omega | decide) (by omega) (by omega)).mono ?_); rintro e wq1 ⟨rfl, _, hq1, Thq1⟩; clear h2; clear Thq1; rw [RM1.out] at hq1)
    | (go_at_call 11; (with_reducible refine (App_in hq1 cOld (by decide) _ (b) (HB.out.ext hq1.below) (Free.arg hq1.base HB.out) (by first | omega | decide) (by omega) (by omega)).mono ?_); rintro e wq2 ⟨rfl, _, hq2, Thq2⟩; clear hq1; clear Thq2; rw [RM2.out] at hq2)
    | (go_at_call 13; (with_reducible refine (Sync_in hq2 cNew (by decide) (by omega) (by omega)).mono ?_); rintro e wq3 ⟨rfl, _, hq3, Thq3⟩; clear hq2; clear Thq3; rw [RM3.out] at hq3)
    | (go_at_call 13; (with_reducible refine (Sync_in hq3 cOld (by decide) (by omega) (by omega)).mono ?_); rintro e wq4 ⟨rfl, _, hq4, Thq4⟩; clear hq3; clear Thq4; rw [RM4.out] at hq4)
    | (go_at_call 15; (with_reducible refine (Dir_in hq4 (by omega) (by omega)).mono ?_); rintro e wq5 ⟨rfl, _, hq5, Thq5⟩; clear hq4; clear Thq5; rw [RM5.out] at hq5)
    | (go_at_call 25; (with_reducible refine (Ren_in hq5 cNew cOld (by decide) (by decide) (by omega) (by omega)).mono ?_); rintro e wq6 ⟨he, _, hq6, Thq6⟩; rw [G6.out] at he; subst he; clear hq5; clear Thq6; rw [RM6.out] at hq6)
    | (go_at_call 21; (with_reducible refine (Read_in hq6 cOld (by decide) (by first | omega | (simp only [List.length_nil]; omega))).mono ?_); rintro e wq7 ⟨vX, he, hoX, hbX, hq7⟩; rw [IX.out] at he; subst he; have hrX := read_cast hoX EX.out; clear hoX; obtain ⟨AX, cX, rfl⟩ := row_slC hrX; have BX := Held.own (k := 0) hq6.own hrX; have capX := row_cap hrX; clear hrX; clear hbX; clear hq6)
    | (go_at_call 21; (with_reducible refine (Read_in hq7 cNew (by decide) (by first | omega | (simp only [List.length_nil]; omega))).mono ?_); rintro e wq8 ⟨vG, he, hoG, hbG, hq8⟩; rw [IG.out] at he; subst he; have hrG := read_cast hoG EG.out; clear hoG; obtain ⟨AG, cG, rfl⟩ := row_slC hrG; have BG := Held.own (k := 0) hq7.own hrG; have capG := row_cap hrG; clear hrG; replace BX := BX.ext hbG; clear hbG; clear hq7)
    | ((with_reducible refine gd_rowC ?_); refine wpList_row_val (v := .bool false) rfl (.tmp 71) rfl boolsTy (by decide) rfl rfl ?_; intro wr hxr hbr hlr; have hqr := hq8.ext hbr; have FR := Lib.hid (Free.lit (k := 0) (n := 1) (c := 1) hq8.own); have BR := Lib.hid (show Bools wr (.slice (some ⟨_, 0, none⟩) 1 1) [false] from ⟨_, _, _, rfl, rfl, Nat.le_refl _, by decide, hxr.rd⟩); replace BX := BX.ext hbr; clear BG; clear hq8 hxr hbr)
    | (go_at_call 19; (with_reducible refine (Plan_in hqr 0 0 (_) [false] (by decide) (by decide) (BR.out) (FR.out) (by simp)).mono ?_); rintro e wq9 ⟨rfl, _, hq9, Thq9⟩; clear hqr; replace BX := BX.turn Thq9; clear Thq9; rw [RM7.out] at hq9)
    | (go_at_call 11; (with_reducible refine (App_in hq9 cZ (by decide) (.slice none 0 0) [] (Bytes.nil _) Free.nil (by decide) (by omega) (by omega)).mono ?_); rintro e wq10 ⟨rfl, _, hq10, Thq10⟩; clear hq9; replace BX := BX.turn Thq10; clear Thq10; rw [RM7C.out] at hq10)
    | (go_at_call 20; (with_reducible refine (Start_in hq10).mono ?_); rintro e wq11 ⟨rfl, hq11, Thq11⟩; clear hq10; replace BX := BX.turn Thq11; clear Thq11)
    | (go_at_call 21; (with_reducible refine (Read_in hq11 cOld (by decide) (by first | omega | (simp only [List.length_nil]; omega))).mono ?_); rintro e wq12 ⟨vY, he, hoY, hbY, hq12⟩; rw [IY.out] at he; subst he; have hrY := read_cast hoY EY.out; clear hoY; obtain ⟨AY, cY, rfl⟩ := row_slC hrY; have BY := Held.own (k := 0) hq11.own hrY; have capY := row_cap hrY; clear hrY; replace BX := BX.ext hbY; clear hbY; clear hq11)
    | (go_at_call 21; (with_reducible refine (Read_in hq12 cNew (by decide) (by first | omega | (simp only [List.length_nil]; omega))).mono ?_); rintro e wq13 ⟨vW, he, hoW, hbW, hq13⟩; rw [IW.out] at he; subst he; have hrW := read_cast hoW EW.out; clear hoW; obtain ⟨AW, cW, rfl⟩ := row_slC hrW; have BW := Held.own (k := 0) hq12.own hrW; have capW := row_cap hrW; clear hrW; replace BX := BX.ext hbW; replace BY := BY.ext hbW; clear hbW; clear hq12)
    | fail)
  have HVA := HA.out.ext hq13.below
  have HVB := HB.out.ext hq13.below
  have q1 := run_str (P := Try.prog) (src := 26) (dst := 9) BX.bytes u8sTy u8Ty Try.underlying9
  have q2 := run_str (P := Try.prog) (src := 26) (dst := 9) HVA u8sTy u8Ty Try.underlying9
  have q3 := run_str (P := Try.prog) (src := 26) (dst := 9) BY.bytes u8sTy u8Ty Try.underlying9
  have q4 := run_str (P := Try.prog) (src := 26) (dst := 9) BW.bytes u8sTy u8Ty Try.underlying9
  have hbl := hq13.below
  go_upto_region 25 with (fail)
  obtain ⟨A3, r1, r2⟩ := cut_h hbT A2 b.length c2 (kh := .i64) (hi' := (b.length : Int)) (hi := b.length) (by first | rfl | simp) (by omega)
  have HV3 := r2 _ _ HVB (by omega)
  rw [show b.take b.length = b from by simp] at HV3
  have p1 := fun m => run_str (P := Try.prog) (src := 26) (dst := 9) (Bytes_drewN BW.bytes m) u8sTy u8Ty Try.underlying9
  have p2 := fun m => run_str (P := Try.prog) (src := 26) (dst := 9) (Bytes_drewN HVA m) u8sTy u8Ty Try.underlying9
  have p3 := fun m => run_str (P := Try.prog) (src := 26) (dst := 9) (Bytes_drewN (show Bytes _ (.slice AY b.length cY) b from BY.bytes) m) u8sTy u8Ty Try.underlying9
  have p4 := fun m => run_str (P := Try.prog) (src := 26) (dst := 9) (Bytes_drewN HV3 m) u8sTy u8Ty Try.underlying9
  have sy := str_eqs b
  clear q1 q2 q3 q4 BX BY BW HVA HVB HV3 r2
  go_quiet (fail)
  go_wp2
  go_ret
  exact ⟨by first | rfl | simp [str_eqs, str_nes], below_drewN hbl _⟩

set_option maxRecDepth 100000 in
set_option maxHeartbeats 4000000 in
theorem walk_tft (va vb : Value) (a b : List UInt8) (w : World) (hva : Bytes w va a) (hvb : Bytes w vb b) (ha : 1 ≤ a.length) (ha3 : a.length ≤ 300) (hb3 : b.length ≤ 300) :
    Calls Try.prog 7 #[va, vb, .bool true, .bool false, .bool true] w fun e w' => e = .returned (.bool true) ∧ Below w.heap.size w w' := by
  have CA := Lib.hid alive_any
  have HA := Lib.hid hva
  have HB := Lib.hid hvb
  obtain ⟨A1, n1, c1, rfl, a1, a2, a3, a4⟩ := id hva
  obtain ⟨A2, n2, c2, rfl, b1, b2, b3, b4⟩ := id hvb
  subst a1 b1
  clear a4 b4 hva hvb
  have e0 : decide ((a.length : Int) < 1) = false := decide_eq_false (by omega)
  have e1 : decide ((300 : Int) < (a.length : Int)) = false := decide_eq_false (by omega)
  have e2 : decide ((300 : Int) < (b.length : Int)) = false := decide_eq_false (by omega)
  have hbT := bytesTyC
  have sa := str_nes a
  have sb := str_eqs a
  obtain ⟨M0, hM0⟩ : ∃ x, x = (⟨[], [], [], -1, 0, [], false, 0, fun _ => ⟨[], 0⟩, 0⟩ : FSs) := ⟨_, rfl⟩
  have HM0 := Lib.hid hM0
  clear hM0
  have RM0 := Lib.hid (show newM = M0 by rw [HM0.out] <;> rfl)
  obtain ⟨M1, hM1⟩ : ∃ x, x = (⟨[(cNew, 0)], [], [.made cNew 0], -1, 0, [], false, 1, fun j => if j = 0 then ⟨a, 0⟩ else (fun j => if j = 0 then ⟨[], 0⟩ else (fun _ => ⟨[], 0⟩) j) j, 1⟩ : FSs) := ⟨_, rfl⟩
  have HM1 := Lib.hid hM1
  clear hM1
  have RM1 := Lib.hid (show appM M0 cNew a = M1 by rw [HM1.out, HM0.out] <;> rfl)
  obtain ⟨M2, hM2⟩ : ∃ x, x = (⟨[(cNew, 0), (cOld, 1)], [], [.made cNew 0, .made cOld 1], -1, 0, [], false, 2, fun j => if j = 1 then ⟨b, 0⟩ else (fun j => if j = 1 then ⟨[], 0⟩ else (fun j => if j = 0 then ⟨a, 0⟩ else (fun j => if j = 0 then ⟨[], 0⟩ else (fun _ => ⟨[], 0⟩) j) j) j) j, 2⟩ : FSs) := ⟨_, rfl⟩
  have HM2 := Lib.hid hM2
  clear hM2
  have RM2 := Lib.hid (show appM M1 cOld b = M2 by rw [HM2.out, HM1.out] <;> rfl)
  obtain ⟨M3, hM3⟩ : ∃ x, x = (⟨[(cNew, 0), (cOld, 1)], [], [.made cNew 0, .made cOld 1], -1, 0, [], false, 3, fun j => if j = 0 then ⟨a, (a).length⟩ else (fun j => if j = 1 then ⟨b, 0⟩ else (fun j => if j = 1 then ⟨[], 0⟩ else (fun j => if j = 0 then ⟨a, 0⟩ else (fun j => if j = 0 then ⟨[], 0⟩ else (fun _ => ⟨[], 0⟩) j) j) j) j) j, 2⟩ : FSs) := ⟨_, rfl⟩
  have HM3 := Lib.hid hM3
  clear hM3
  have RM3 := Lib.hid (show syncM M2 cNew = M3 by rw [HM3.out, HM2.out] <;> rfl)
  obtain ⟨M4, hM4⟩ : ∃ x, x = (⟨[(cNew, 0), (cOld, 1)], [], [.made cNew 0, .made cOld 1], -1, 0, [], false, 4, fun j => if j = 1 then ⟨b, (b).length⟩ else (fun j => if j = 0 then ⟨a, (a).length⟩ else (fun j => if j = 1 then ⟨b, 0⟩ else (fun j => if j = 1 then ⟨[], 0⟩ else (fun j => if j = 0 then ⟨a, 0⟩ else (fun j => if j = 0 then ⟨[], 0⟩ else (fun _ => ⟨[], 0⟩) j) j) j) j) j) j, 2⟩ : FSs) := ⟨_, rfl⟩
  have HM4 := Lib.hid hM4
  clear hM4
  have RM4 := Lib.hid (show syncM M3 cOld = M4 by rw [HM4.out, HM3.out] <;> rfl)
  obtain ⟨M5, hM5⟩ : ∃ x, x = (⟨[(cNew, 0), (cOld, 1)], [(cNew, 0), (cOld, 1)], [], -1, 0, [], false, 5, fun j => if j = 1 then ⟨b, (b).length⟩ else (fun j => if j = 0 then ⟨a, (a).length⟩ else (fun j => if j = 1 then ⟨b, 0⟩ else (fun j => if j = 1 then ⟨[], 0⟩ else (fun j => if j = 0 then ⟨a, 0⟩ else (fun j => if j = 0 then ⟨[], 0⟩ else (fun _ => ⟨[], 0⟩) j) j) j) j) j) j, 2⟩ : FSs) := ⟨_, rfl⟩
  have HM5 := Lib.hid hM5
  clear hM5
  have RM5 := Lib.hid (show dirM M4 = M5 by rw [HM5.out, HM4.out] <;> rfl)
  have G6 := Lib.hid (show goesB M5 (isB M5 cNew && namedB cOld) = true by rw [HM5.out] <;> rfl)
  obtain ⟨M6, hM6⟩ : ∃ x, x = (⟨[(cOld, 0)], [(cNew, 0), (cOld, 1)], [.ren cNew cOld 0], -1, 0, [], false, 6, fun j => if j = 1 then ⟨b, (b).length⟩ else (fun j => if j = 0 then ⟨a, (a).length⟩ else (fun j => if j = 1 then ⟨b, 0⟩ else (fun j => if j = 1 then ⟨[], 0⟩ else (fun j => if j = 0 then ⟨a, 0⟩ else (fun j => if j = 0 then ⟨[], 0⟩ else (fun _ => ⟨[], 0⟩) j) j) j) j) j) j, 2⟩ : FSs) := ⟨_, rfl⟩
  have HM6 := Lib.hid hM6
  clear hM6
  have RM6 := Lib.hid (show renM M5 cNew cOld = M6 by rw [HM6.out, HM5.out] <;> rfl)
  have EX := Lib.hid (show readM M6 cOld = a from (by rw [HM6.out] <;> rfl))
  have IX := Lib.hid (show isB M6 cOld = true from (by rw [HM6.out] <;> rfl))
  have EG := Lib.hid (show readM M6 cNew = [] from (by rw [HM6.out] <;> rfl))
  have IG := Lib.hid (show isB M6 cNew = false from (by rw [HM6.out] <;> rfl))
  obtain ⟨M7, hM7⟩ : ∃ x, x = (⟨[(cOld, 0)], [(cNew, 0), (cOld, 1)], [.ren cNew cOld 0], 0, 0, [true], false, 6, fun j => if j = 1 then ⟨b, (b).length⟩ else (fun j => if j = 0 then ⟨a, (a).length⟩ else (fun j => if j = 1 then ⟨b, 0⟩ else (fun j => if j = 1 then ⟨[], 0⟩ else (fun j => if j = 0 then ⟨a, 0⟩ else (fun j => if j = 0 then ⟨[], 0⟩ else (fun _ => ⟨[], 0⟩) j) j) j) j) j) j, 2⟩ : FSs) := ⟨_, rfl⟩
  have HM7 := Lib.hid hM7
  clear hM7
  have RM7 := Lib.hid (show planM M6 0 0 [true] = M7 by rw [HM7.out, HM6.out] <;> rfl)
  have RM7C := Lib.hid (show appM M7 cZ [] = crashM M7 from app_off (by rw [HM7.out] <;> rfl) (by rw [HM7.out] <;> rfl))
  have EY := Lib.hid (show readM (startM (crashM M7)) cOld = a from crash_read (M := M7) (i := 0) (by rw [HM7.out] <;> rfl) (by rw [HM7.out] <;> rfl) (by rw [HM7.out] <;> rfl))
  have IY := Lib.hid (show isB (startM (crashM M7)) cOld = true from crash_isB (M := M7) (i := 0) (by rw [HM7.out] <;> rfl))
  have EW := Lib.hid (show readM (startM (crashM M7)) cNew = [] from crash_read_no (M := M7) (by rw [HM7.out] <;> rfl))
  have IW := Lib.hid (show isB (startM (crashM M7)) cNew = false from crash_isB_no (M := M7) (by rw [HM7.out] <;> rfl))
  go_enter Try.func7, Try.ntmps7
  go_upto_region 21 with (first
    | (go_at_call 9; (with_reducible refine (CA.out _).mono ?_); rintro e w1 ⟨rfl, hb1⟩; have N0 := Lib.hid (New_in (w0 := w) (w := w1) (o := fun _ => none) 0 (fun _ _ => rfl) hb1 (fun _ _ => rfl)))
    | (go_at_call 10; (with_reducible refine N0.out.mono ?_); rintro e w2 ⟨p, o2, rfl, h2, T2⟩; clear T2; rw [RM0.out] at h2)
    | (go_at_call 11; (with_reducible refine (App_in h2 cNew (by decide) _ (a) (HA.out.ext h2.below) (Free.arg h2.base HA.out) (by first | omega | decide) (by omega) (by omega)).mono ?_); rintro e wq1 ⟨rfl, _, hq1, Thq1⟩; clear h2; clear Thq1; rw [RM1.out] at hq1)
    | (go_at_call 11; (with_reducible refine (App_in hq1 cOld (by decide) _ (b) (HB.out.ext hq1.below) (Free.arg hq1.base HB.out) (by first | omega | decide) (by omega) (by omega)).mono ?_); rintro e wq2 ⟨rfl, _, hq2, Thq2⟩; clear hq1; clear Thq2; rw [RM2.out] at hq2)
    | (go_at_call 13; (with_reducible refine (Sync_in hq2 cNew (by decide) (by omega) (by omega)).mono ?_); rintro e wq3 ⟨rfl, _, hq3, Thq3⟩; clear hq2; clear Thq3; rw [RM3.out] at hq3)
    | (go_at_call 13; (with_reducible refine (Sync_in hq3 cOld (by decide) (by omega) (by omega)).mono ?_); rintro e wq4 ⟨rfl, _, hq4, Thq4⟩; clear hq3; clear Thq4; rw [RM4.out] at hq4)
    | (go_at_call 15; (with_reducible refine (Dir_in hq4 (by omega) (by omega)).mono ?_); rintro e wq5 ⟨rfl, _, hq5, Thq5⟩; clear hq4; clear Thq5; rw [RM5.out] at hq5)
    | (go_at_call 25; (with_reducible refine (Ren_in hq5 cNew cOld (by decide) (by decide) (by omega) (by omega)).mono ?_); rintro e wq6 ⟨he, _, hq6, Thq6⟩; rw [G6.out] at he; subst he; clear hq5; clear Thq6; rw [RM6.out] at hq6)
    | (go_at_call 21; (with_reducible refine (Read_in hq6 cOld (by decide) (by first | omega | (simp only [List.length_nil]; omega))).mono ?_); rintro e wq7 ⟨vX, he, hoX, hbX, hq7⟩; rw [IX.out] at he; subst he; have hrX := read_cast hoX EX.out; clear hoX; obtain ⟨AX, cX, rfl⟩ := row_slC hrX; have BX := Held.own (k := 0) hq6.own hrX; have capX := row_cap hrX; clear hrX; clear hbX; clear hq6)
    | (go_at_call 21; (with_reducible refine (Read_in hq7 cNew (by decide) (by first | omega | (simp only [List.length_nil]; omega))).mono ?_); rintro e wq8 ⟨vG, he, hoG, hbG, hq8⟩; rw [IG.out] at he; subst he; have hrG := read_cast hoG EG.out; clear hoG; obtain ⟨AG, cG, rfl⟩ := row_slC hrG; have BG := Held.own (k := 0) hq7.own hrG; have capG := row_cap hrG; clear hrG; replace BX := BX.ext hbG; clear hbG; clear hq7)
    | ((with_reducible refine gd_rowC ?_); refine wpList_row_val (v := .bool true) rfl (.tmp 71) rfl boolsTy (by decide) rfl rfl ?_; intro wr hxr hbr hlr; have hqr := hq8.ext hbr; have FR := Lib.hid (Free.lit (k := 0) (n := 1) (c := 1) hq8.own); have BR := Lib.hid (show Bools wr (.slice (some ⟨_, 0, none⟩) 1 1) [true] from ⟨_, _, _, rfl, rfl, Nat.le_refl _, by decide, hxr.rd⟩); replace BX := BX.ext hbr; clear BG; clear hq8 hxr hbr)
    | (go_at_call 19; (with_reducible refine (Plan_in hqr 0 0 (_) [true] (by decide) (by decide) (BR.out) (FR.out) (by simp)).mono ?_); rintro e wq9 ⟨rfl, _, hq9, Thq9⟩; clear hqr; replace BX := BX.turn Thq9; clear Thq9; rw [RM7.out] at hq9)
    | (go_at_call 11; (with_reducible refine (App_in hq9 cZ (by decide) (.slice none 0 0) [] (Bytes.nil _) Free.nil (by decide) (by omega) (by omega)).mono ?_); rintro e wq10 ⟨rfl, _, hq10, Thq10⟩; clear hq9; replace BX := BX.turn Thq10; clear Thq10; rw [RM7C.out] at hq10)
    | (go_at_call 20; (with_reducible refine (Start_in hq10).mono ?_); rintro e wq11 ⟨rfl, hq11, Thq11⟩; clear hq10; replace BX := BX.turn Thq11; clear Thq11)
    | (go_at_call 21; (with_reducible refine (Read_in hq11 cOld (by decide) (by first | omega | (simp only [List.length_nil]; omega))).mono ?_); rintro e wq12 ⟨vY, he, hoY, hbY, hq12⟩; rw [IY.out] at he; subst he; have hrY := read_cast hoY EY.out; clear hoY; obtain ⟨AY, cY, rfl⟩ := row_slC hrY; have BY := Held.own (k := 0) hq11.own hrY; have capY := row_cap hrY; clear hrY; replace BX := BX.ext hbY; clear hbY; clear hq11)
    | (go_at_call 21; (with_reducible refine (Read_in hq12 cNew (by decide) (by first | omega | (simp only [List.length_nil]; omega))).mono ?_); rintro e wq13 ⟨vW, he, hoW, hbW, hq13⟩; rw [IW.out] at he; subst he; have hrW := read_cast hoW EW.out; clear hoW; obtain ⟨AW, cW, rfl⟩ := row_slC hrW; have BW := Held.own (k := 0) hq12.own hrW; have capW := row_cap hrW; clear hrW; replace BX := BX.ext hbW; replace BY := BY.ext hbW; clear hbW; clear hq12)
    | fail)
  have HVA := HA.out.ext hq13.below
  have HVB := HB.out.ext hq13.below
  have q1 := run_str (P := Try.prog) (src := 26) (dst := 9) BX.bytes u8sTy u8Ty Try.underlying9
  have q2 := run_str (P := Try.prog) (src := 26) (dst := 9) HVA u8sTy u8Ty Try.underlying9
  have q3 := run_str (P := Try.prog) (src := 26) (dst := 9) BY.bytes u8sTy u8Ty Try.underlying9
  have q4 := run_str (P := Try.prog) (src := 26) (dst := 9) BW.bytes u8sTy u8Ty Try.underlying9
  have hbl := hq13.below
  go_wp2
  go_ret
  exact ⟨by first | rfl | simp [str_eqs, str_nes], hbl⟩

set_option maxRecDepth 100000 in
set_option maxHeartbeats 4000000 in
theorem walk_ttf (va vb : Value) (a b : List UInt8) (w : World) (hva : Bytes w va a) (hvb : Bytes w vb b) (ha : 1 ≤ a.length) (ha3 : a.length ≤ 300) (hb3 : b.length ≤ 300) :
    Calls Try.prog 7 #[va, vb, .bool true, .bool true, .bool false] w fun e w' => e = .returned (.bool true) ∧ Below w.heap.size w w' := by
  have CA := Lib.hid alive_any
  have HA := Lib.hid hva
  have HB := Lib.hid hvb
  obtain ⟨A1, n1, c1, rfl, a1, a2, a3, a4⟩ := id hva
  obtain ⟨A2, n2, c2, rfl, b1, b2, b3, b4⟩ := id hvb
  subst a1 b1
  clear a4 b4 hva hvb
  have e0 : decide ((a.length : Int) < 1) = false := decide_eq_false (by omega)
  have e1 : decide ((300 : Int) < (a.length : Int)) = false := decide_eq_false (by omega)
  have e2 : decide ((300 : Int) < (b.length : Int)) = false := decide_eq_false (by omega)
  have hbT := bytesTyC
  have sa := str_nes a
  have sb := str_eqs a
  obtain ⟨M0, hM0⟩ : ∃ x, x = (⟨[], [], [], -1, 0, [], false, 0, fun _ => ⟨[], 0⟩, 0⟩ : FSs) := ⟨_, rfl⟩
  have HM0 := Lib.hid hM0
  clear hM0
  have RM0 := Lib.hid (show newM = M0 by rw [HM0.out] <;> rfl)
  obtain ⟨M1, hM1⟩ : ∃ x, x = (⟨[(cNew, 0)], [], [.made cNew 0], -1, 0, [], false, 1, fun j => if j = 0 then ⟨a, 0⟩ else (fun j => if j = 0 then ⟨[], 0⟩ else (fun _ => ⟨[], 0⟩) j) j, 1⟩ : FSs) := ⟨_, rfl⟩
  have HM1 := Lib.hid hM1
  clear hM1
  have RM1 := Lib.hid (show appM M0 cNew a = M1 by rw [HM1.out, HM0.out] <;> rfl)
  obtain ⟨M2, hM2⟩ : ∃ x, x = (⟨[(cNew, 0), (cOld, 1)], [], [.made cNew 0, .made cOld 1], -1, 0, [], false, 2, fun j => if j = 1 then ⟨b, 0⟩ else (fun j => if j = 1 then ⟨[], 0⟩ else (fun j => if j = 0 then ⟨a, 0⟩ else (fun j => if j = 0 then ⟨[], 0⟩ else (fun _ => ⟨[], 0⟩) j) j) j) j, 2⟩ : FSs) := ⟨_, rfl⟩
  have HM2 := Lib.hid hM2
  clear hM2
  have RM2 := Lib.hid (show appM M1 cOld b = M2 by rw [HM2.out, HM1.out] <;> rfl)
  obtain ⟨M3, hM3⟩ : ∃ x, x = (⟨[(cNew, 0), (cOld, 1)], [], [.made cNew 0, .made cOld 1], -1, 0, [], false, 3, fun j => if j = 0 then ⟨a, (a).length⟩ else (fun j => if j = 1 then ⟨b, 0⟩ else (fun j => if j = 1 then ⟨[], 0⟩ else (fun j => if j = 0 then ⟨a, 0⟩ else (fun j => if j = 0 then ⟨[], 0⟩ else (fun _ => ⟨[], 0⟩) j) j) j) j) j, 2⟩ : FSs) := ⟨_, rfl⟩
  have HM3 := Lib.hid hM3
  clear hM3
  have RM3 := Lib.hid (show syncM M2 cNew = M3 by rw [HM3.out, HM2.out] <;> rfl)
  obtain ⟨M4, hM4⟩ : ∃ x, x = (⟨[(cNew, 0), (cOld, 1)], [], [.made cNew 0, .made cOld 1], -1, 0, [], false, 4, fun j => if j = 1 then ⟨b, (b).length⟩ else (fun j => if j = 0 then ⟨a, (a).length⟩ else (fun j => if j = 1 then ⟨b, 0⟩ else (fun j => if j = 1 then ⟨[], 0⟩ else (fun j => if j = 0 then ⟨a, 0⟩ else (fun j => if j = 0 then ⟨[], 0⟩ else (fun _ => ⟨[], 0⟩) j) j) j) j) j) j, 2⟩ : FSs) := ⟨_, rfl⟩
  have HM4 := Lib.hid hM4
  clear hM4
  have RM4 := Lib.hid (show syncM M3 cOld = M4 by rw [HM4.out, HM3.out] <;> rfl)
  obtain ⟨M5, hM5⟩ : ∃ x, x = (⟨[(cNew, 0), (cOld, 1)], [(cNew, 0), (cOld, 1)], [], -1, 0, [], false, 5, fun j => if j = 1 then ⟨b, (b).length⟩ else (fun j => if j = 0 then ⟨a, (a).length⟩ else (fun j => if j = 1 then ⟨b, 0⟩ else (fun j => if j = 1 then ⟨[], 0⟩ else (fun j => if j = 0 then ⟨a, 0⟩ else (fun j => if j = 0 then ⟨[], 0⟩ else (fun _ => ⟨[], 0⟩) j) j) j) j) j) j, 2⟩ : FSs) := ⟨_, rfl⟩
  have HM5 := Lib.hid hM5
  clear hM5
  have RM5 := Lib.hid (show dirM M4 = M5 by rw [HM5.out, HM4.out] <;> rfl)
  have G6 := Lib.hid (show goesB M5 (isB M5 cNew && namedB cOld) = true by rw [HM5.out] <;> rfl)
  obtain ⟨M6, hM6⟩ : ∃ x, x = (⟨[(cOld, 0)], [(cNew, 0), (cOld, 1)], [.ren cNew cOld 0], -1, 0, [], false, 6, fun j => if j = 1 then ⟨b, (b).length⟩ else (fun j => if j = 0 then ⟨a, (a).length⟩ else (fun j => if j = 1 then ⟨b, 0⟩ else (fun j => if j = 1 then ⟨[], 0⟩ else (fun j => if j = 0 then ⟨a, 0⟩ else (fun j => if j = 0 then ⟨[], 0⟩ else (fun _ => ⟨[], 0⟩) j) j) j) j) j) j, 2⟩ : FSs) := ⟨_, rfl⟩
  have HM6 := Lib.hid hM6
  clear hM6
  have RM6 := Lib.hid (show renM M5 cNew cOld = M6 by rw [HM6.out, HM5.out] <;> rfl)
  obtain ⟨M7, hM7⟩ : ∃ x, x = (⟨[(cOld, 0)], [(cOld, 0)], [], -1, 0, [], false, 7, fun j => if j = 1 then ⟨b, (b).length⟩ else (fun j => if j = 0 then ⟨a, (a).length⟩ else (fun j => if j = 1 then ⟨b, 0⟩ else (fun j => if j = 1 then ⟨[], 0⟩ else (fun j => if j = 0 then ⟨a, 0⟩ else (fun j => if j = 0 then ⟨[], 0⟩ else (fun _ => ⟨[], 0⟩) j) j) j) j) j) j, 2⟩ : FSs) := ⟨_, rfl⟩
  have HM7 := Lib.hid hM7
  clear hM7
  have RM7 := Lib.hid (show dirM M6 = M7 by rw [HM7.out, HM6.out] <;> rfl)
  have EX := Lib.hid (show readM M7 cOld = a from (by rw [HM7.out] <;> rfl))
  have IX := Lib.hid (show isB M7 cOld = true from (by rw [HM7.out] <;> rfl))
  have EG := Lib.hid (show readM M7 cNew = [] from (by rw [HM7.out] <;> rfl))
  have IG := Lib.hid (show isB M7 cNew = false from (by rw [HM7.out] <;> rfl))
  obtain ⟨M8, hM8⟩ : ∃ x, x = (⟨[(cOld, 0)], [(cOld, 0)], [], 0, 0, [false], false, 7, fun j => if j = 1 then ⟨b, (b).length⟩ else (fun j => if j = 0 then ⟨a, (a).length⟩ else (fun j => if j = 1 then ⟨b, 0⟩ else (fun j => if j = 1 then ⟨[], 0⟩ else (fun j => if j = 0 then ⟨a, 0⟩ else (fun j => if j = 0 then ⟨[], 0⟩ else (fun _ => ⟨[], 0⟩) j) j) j) j) j) j, 2⟩ : FSs) := ⟨_, rfl⟩
  have HM8 := Lib.hid hM8
  clear hM8
  have RM8 := Lib.hid (show planM M7 0 0 [false] = M8 by rw [HM8.out, HM7.out] <;> rfl)
  have RM8C := Lib.hid (show appM M8 cZ [] = crashM M8 from app_off (by rw [HM8.out] <;> rfl) (by rw [HM8.out] <;> rfl))
  have EY := Lib.hid (show readM (startM (crashM M8)) cOld = a from crash_read (M := M8) (i := 0) (by rw [HM8.out] <;> rfl) (by rw [HM8.out] <;> rfl) (by rw [HM8.out] <;> rfl))
  have IY := Lib.hid (show isB (startM (crashM M8)) cOld = true from crash_isB (M := M8) (i := 0) (by rw [HM8.out] <;> rfl))
  have EW := Lib.hid (show readM (startM (crashM M8)) cNew = [] from crash_read_no (M := M8) (by rw [HM8.out] <;> rfl))
  have IW := Lib.hid (show isB (startM (crashM M8)) cNew = false from crash_isB_no (M := M8) (by rw [HM8.out] <;> rfl))
  go_enter Try.func7, Try.ntmps7
  go_upto_region 21 with (first
    | (go_at_call 9; (with_reducible refine (CA.out _).mono ?_); rintro e w1 ⟨rfl, hb1⟩; have N0 := Lib.hid (New_in (w0 := w) (w := w1) (o := fun _ => none) 0 (fun _ _ => rfl) hb1 (fun _ _ => rfl)))
    | (go_at_call 10; (with_reducible refine N0.out.mono ?_); rintro e w2 ⟨p, o2, rfl, h2, T2⟩; clear T2; rw [RM0.out] at h2)
    | (go_at_call 11; (with_reducible refine (App_in h2 cNew (by decide) _ (a) (HA.out.ext h2.below) (Free.arg h2.base HA.out) (by first | omega | decide) (by omega) (by omega)).mono ?_); rintro e wq1 ⟨rfl, _, hq1, Thq1⟩; clear h2; clear Thq1; rw [RM1.out] at hq1)
    | (go_at_call 11; (with_reducible refine (App_in hq1 cOld (by decide) _ (b) (HB.out.ext hq1.below) (Free.arg hq1.base HB.out) (by first | omega | decide) (by omega) (by omega)).mono ?_); rintro e wq2 ⟨rfl, _, hq2, Thq2⟩; clear hq1; clear Thq2; rw [RM2.out] at hq2)
    | (go_at_call 13; (with_reducible refine (Sync_in hq2 cNew (by decide) (by omega) (by omega)).mono ?_); rintro e wq3 ⟨rfl, _, hq3, Thq3⟩; clear hq2; clear Thq3; rw [RM3.out] at hq3)
    | (go_at_call 13; (with_reducible refine (Sync_in hq3 cOld (by decide) (by omega) (by omega)).mono ?_); rintro e wq4 ⟨rfl, _, hq4, Thq4⟩; clear hq3; clear Thq4; rw [RM4.out] at hq4)
    | (go_at_call 15; (with_reducible refine (Dir_in hq4 (by omega) (by omega)).mono ?_); rintro e wq5 ⟨rfl, _, hq5, Thq5⟩; clear hq4; clear Thq5; rw [RM5.out] at hq5)
    | (go_at_call 25; (with_reducible refine (Ren_in hq5 cNew cOld (by decide) (by decide) (by omega) (by omega)).mono ?_); rintro e wq6 ⟨he, _, hq6, Thq6⟩; rw [G6.out] at he; subst he; clear hq5; clear Thq6; rw [RM6.out] at hq6)
    | (go_at_call 15; (with_reducible refine (Dir_in hq6 (by omega) (by omega)).mono ?_); rintro e wq7 ⟨rfl, _, hq7, Thq7⟩; clear hq6; clear Thq7; rw [RM7.out] at hq7)
    | (go_at_call 21; (with_reducible refine (Read_in hq7 cOld (by decide) (by first | omega | (simp only [List.length_nil]; omega))).mono ?_); rintro e wq8 ⟨vX, he, hoX, hbX, hq8⟩; rw [IX.out] at he; subst he; have hrX := read_cast hoX EX.out; clear hoX; obtain ⟨AX, cX, rfl⟩ := row_slC hrX; have BX := Held.own (k := 0) hq7.own hrX; have capX := row_cap hrX; clear hrX; clear hbX; clear hq7)
    | (go_at_call 21; (with_reducible refine (Read_in hq8 cNew (by decide) (by first | omega | (simp only [List.length_nil]; omega))).mono ?_); rintro e wq9 ⟨vG, he, hoG, hbG, hq9⟩; rw [IG.out] at he; subst he; have hrG := read_cast hoG EG.out; clear hoG; obtain ⟨AG, cG, rfl⟩ := row_slC hrG; have BG := Held.own (k := 0) hq8.own hrG; have capG := row_cap hrG; clear hrG; replace BX := BX.ext hbG; clear hbG; clear hq8)
    | ((with_reducible refine gd_rowC ?_); refine wpList_row_val (v := .bool false) rfl (.tmp 71) rfl boolsTy (by decide) rfl rfl ?_; intro wr hxr hbr hlr; have hqr := hq9.ext hbr; have FR := Lib.hid (Free.lit (k := 0) (n := 1) (c := 1) hq9.own); have BR := Lib.hid (show Bools wr (.slice (some ⟨_, 0, none⟩) 1 1) [false] from ⟨_, _, _, rfl, rfl, Nat.le_refl _, by decide, hxr.rd⟩); replace BX := BX.ext hbr; clear BG; clear hq9 hxr hbr)
    | (go_at_call 19; (with_reducible refine (Plan_in hqr 0 0 (_) [false] (by decide) (by decide) (BR.out) (FR.out) (by simp)).mono ?_); rintro e wq10 ⟨rfl, _, hq10, Thq10⟩; clear hqr; replace BX := BX.turn Thq10; clear Thq10; rw [RM8.out] at hq10)
    | (go_at_call 11; (with_reducible refine (App_in hq10 cZ (by decide) (.slice none 0 0) [] (Bytes.nil _) Free.nil (by decide) (by omega) (by omega)).mono ?_); rintro e wq11 ⟨rfl, _, hq11, Thq11⟩; clear hq10; replace BX := BX.turn Thq11; clear Thq11; rw [RM8C.out] at hq11)
    | (go_at_call 20; (with_reducible refine (Start_in hq11).mono ?_); rintro e wq12 ⟨rfl, hq12, Thq12⟩; clear hq11; replace BX := BX.turn Thq12; clear Thq12)
    | (go_at_call 21; (with_reducible refine (Read_in hq12 cOld (by decide) (by first | omega | (simp only [List.length_nil]; omega))).mono ?_); rintro e wq13 ⟨vY, he, hoY, hbY, hq13⟩; rw [IY.out] at he; subst he; have hrY := read_cast hoY EY.out; clear hoY; obtain ⟨AY, cY, rfl⟩ := row_slC hrY; have BY := Held.own (k := 0) hq12.own hrY; have capY := row_cap hrY; clear hrY; replace BX := BX.ext hbY; clear hbY; clear hq12)
    | (go_at_call 21; (with_reducible refine (Read_in hq13 cNew (by decide) (by first | omega | (simp only [List.length_nil]; omega))).mono ?_); rintro e wq14 ⟨vW, he, hoW, hbW, hq14⟩; rw [IW.out] at he; subst he; have hrW := read_cast hoW EW.out; clear hoW; obtain ⟨AW, cW, rfl⟩ := row_slC hrW; have BW := Held.own (k := 0) hq13.own hrW; have capW := row_cap hrW; clear hrW; replace BX := BX.ext hbW; replace BY := BY.ext hbW; clear hbW; clear hq13)
    | fail)
  have HVA := HA.out.ext hq14.below
  have HVB := HB.out.ext hq14.below
  have q1 := run_str (P := Try.prog) (src := 26) (dst := 9) BX.bytes u8sTy u8Ty Try.underlying9
  have q2 := run_str (P := Try.prog) (src := 26) (dst := 9) HVA u8sTy u8Ty Try.underlying9
  have q3 := run_str (P := Try.prog) (src := 26) (dst := 9) BY.bytes u8sTy u8Ty Try.underlying9
  have q4 := run_str (P := Try.prog) (src := 26) (dst := 9) BW.bytes u8sTy u8Ty Try.underlying9
  have hbl := hq14.below
  go_wp2
  go_ret
  exact ⟨by first | rfl | simp [str_eqs, str_nes], hbl⟩

set_option maxRecDepth 100000 in
set_option maxHeartbeats 4000000 in
theorem walk_ttt (va vb : Value) (a b : List UInt8) (w : World) (hva : Bytes w va a) (hvb : Bytes w vb b) (ha : 1 ≤ a.length) (ha3 : a.length ≤ 300) (hb3 : b.length ≤ 300) :
    Calls Try.prog 7 #[va, vb, .bool true, .bool true, .bool true] w fun e w' => e = .returned (.bool true) ∧ Below w.heap.size w w' := by
  have CA := Lib.hid alive_any
  have HA := Lib.hid hva
  have HB := Lib.hid hvb
  obtain ⟨A1, n1, c1, rfl, a1, a2, a3, a4⟩ := id hva
  obtain ⟨A2, n2, c2, rfl, b1, b2, b3, b4⟩ := id hvb
  subst a1 b1
  clear a4 b4 hva hvb
  have e0 : decide ((a.length : Int) < 1) = false := decide_eq_false (by omega)
  have e1 : decide ((300 : Int) < (a.length : Int)) = false := decide_eq_false (by omega)
  have e2 : decide ((300 : Int) < (b.length : Int)) = false := decide_eq_false (by omega)
  have hbT := bytesTyC
  have sa := str_nes a
  have sb := str_eqs a
  obtain ⟨M0, hM0⟩ : ∃ x, x = (⟨[], [], [], -1, 0, [], false, 0, fun _ => ⟨[], 0⟩, 0⟩ : FSs) := ⟨_, rfl⟩
  have HM0 := Lib.hid hM0
  clear hM0
  have RM0 := Lib.hid (show newM = M0 by rw [HM0.out] <;> rfl)
  obtain ⟨M1, hM1⟩ : ∃ x, x = (⟨[(cNew, 0)], [], [.made cNew 0], -1, 0, [], false, 1, fun j => if j = 0 then ⟨a, 0⟩ else (fun j => if j = 0 then ⟨[], 0⟩ else (fun _ => ⟨[], 0⟩) j) j, 1⟩ : FSs) := ⟨_, rfl⟩
  have HM1 := Lib.hid hM1
  clear hM1
  have RM1 := Lib.hid (show appM M0 cNew a = M1 by rw [HM1.out, HM0.out] <;> rfl)
  obtain ⟨M2, hM2⟩ : ∃ x, x = (⟨[(cNew, 0), (cOld, 1)], [], [.made cNew 0, .made cOld 1], -1, 0, [], false, 2, fun j => if j = 1 then ⟨b, 0⟩ else (fun j => if j = 1 then ⟨[], 0⟩ else (fun j => if j = 0 then ⟨a, 0⟩ else (fun j => if j = 0 then ⟨[], 0⟩ else (fun _ => ⟨[], 0⟩) j) j) j) j, 2⟩ : FSs) := ⟨_, rfl⟩
  have HM2 := Lib.hid hM2
  clear hM2
  have RM2 := Lib.hid (show appM M1 cOld b = M2 by rw [HM2.out, HM1.out] <;> rfl)
  obtain ⟨M3, hM3⟩ : ∃ x, x = (⟨[(cNew, 0), (cOld, 1)], [], [.made cNew 0, .made cOld 1], -1, 0, [], false, 3, fun j => if j = 0 then ⟨a, (a).length⟩ else (fun j => if j = 1 then ⟨b, 0⟩ else (fun j => if j = 1 then ⟨[], 0⟩ else (fun j => if j = 0 then ⟨a, 0⟩ else (fun j => if j = 0 then ⟨[], 0⟩ else (fun _ => ⟨[], 0⟩) j) j) j) j) j, 2⟩ : FSs) := ⟨_, rfl⟩
  have HM3 := Lib.hid hM3
  clear hM3
  have RM3 := Lib.hid (show syncM M2 cNew = M3 by rw [HM3.out, HM2.out] <;> rfl)
  obtain ⟨M4, hM4⟩ : ∃ x, x = (⟨[(cNew, 0), (cOld, 1)], [], [.made cNew 0, .made cOld 1], -1, 0, [], false, 4, fun j => if j = 1 then ⟨b, (b).length⟩ else (fun j => if j = 0 then ⟨a, (a).length⟩ else (fun j => if j = 1 then ⟨b, 0⟩ else (fun j => if j = 1 then ⟨[], 0⟩ else (fun j => if j = 0 then ⟨a, 0⟩ else (fun j => if j = 0 then ⟨[], 0⟩ else (fun _ => ⟨[], 0⟩) j) j) j) j) j) j, 2⟩ : FSs) := ⟨_, rfl⟩
  have HM4 := Lib.hid hM4
  clear hM4
  have RM4 := Lib.hid (show syncM M3 cOld = M4 by rw [HM4.out, HM3.out] <;> rfl)
  obtain ⟨M5, hM5⟩ : ∃ x, x = (⟨[(cNew, 0), (cOld, 1)], [(cNew, 0), (cOld, 1)], [], -1, 0, [], false, 5, fun j => if j = 1 then ⟨b, (b).length⟩ else (fun j => if j = 0 then ⟨a, (a).length⟩ else (fun j => if j = 1 then ⟨b, 0⟩ else (fun j => if j = 1 then ⟨[], 0⟩ else (fun j => if j = 0 then ⟨a, 0⟩ else (fun j => if j = 0 then ⟨[], 0⟩ else (fun _ => ⟨[], 0⟩) j) j) j) j) j) j, 2⟩ : FSs) := ⟨_, rfl⟩
  have HM5 := Lib.hid hM5
  clear hM5
  have RM5 := Lib.hid (show dirM M4 = M5 by rw [HM5.out, HM4.out] <;> rfl)
  have G6 := Lib.hid (show goesB M5 (isB M5 cNew && namedB cOld) = true by rw [HM5.out] <;> rfl)
  obtain ⟨M6, hM6⟩ : ∃ x, x = (⟨[(cOld, 0)], [(cNew, 0), (cOld, 1)], [.ren cNew cOld 0], -1, 0, [], false, 6, fun j => if j = 1 then ⟨b, (b).length⟩ else (fun j => if j = 0 then ⟨a, (a).length⟩ else (fun j => if j = 1 then ⟨b, 0⟩ else (fun j => if j = 1 then ⟨[], 0⟩ else (fun j => if j = 0 then ⟨a, 0⟩ else (fun j => if j = 0 then ⟨[], 0⟩ else (fun _ => ⟨[], 0⟩) j) j) j) j) j) j, 2⟩ : FSs) := ⟨_, rfl⟩
  have HM6 := Lib.hid hM6
  clear hM6
  have RM6 := Lib.hid (show renM M5 cNew cOld = M6 by rw [HM6.out, HM5.out] <;> rfl)
  obtain ⟨M7, hM7⟩ : ∃ x, x = (⟨[(cOld, 0)], [(cOld, 0)], [], -1, 0, [], false, 7, fun j => if j = 1 then ⟨b, (b).length⟩ else (fun j => if j = 0 then ⟨a, (a).length⟩ else (fun j => if j = 1 then ⟨b, 0⟩ else (fun j => if j = 1 then ⟨[], 0⟩ else (fun j => if j = 0 then ⟨a, 0⟩ else (fun j => if j = 0 then ⟨[], 0⟩ else (fun _ => ⟨[], 0⟩) j) j) j) j) j) j, 2⟩ : FSs) := ⟨_, rfl⟩
  have HM7 := Lib.hid hM7
  clear hM7
  have RM7 := Lib.hid (show dirM M6 = M7 by rw [HM7.out, HM6.out] <;> rfl)
  have EX := Lib.hid (show readM M7 cOld = a from (by rw [HM7.out] <;> rfl))
  have IX := Lib.hid (show isB M7 cOld = true from (by rw [HM7.out] <;> rfl))
  have EG := Lib.hid (show readM M7 cNew = [] from (by rw [HM7.out] <;> rfl))
  have IG := Lib.hid (show isB M7 cNew = false from (by rw [HM7.out] <;> rfl))
  obtain ⟨M8, hM8⟩ : ∃ x, x = (⟨[(cOld, 0)], [(cOld, 0)], [], 0, 0, [true], false, 7, fun j => if j = 1 then ⟨b, (b).length⟩ else (fun j => if j = 0 then ⟨a, (a).length⟩ else (fun j => if j = 1 then ⟨b, 0⟩ else (fun j => if j = 1 then ⟨[], 0⟩ else (fun j => if j = 0 then ⟨a, 0⟩ else (fun j => if j = 0 then ⟨[], 0⟩ else (fun _ => ⟨[], 0⟩) j) j) j) j) j) j, 2⟩ : FSs) := ⟨_, rfl⟩
  have HM8 := Lib.hid hM8
  clear hM8
  have RM8 := Lib.hid (show planM M7 0 0 [true] = M8 by rw [HM8.out, HM7.out] <;> rfl)
  have RM8C := Lib.hid (show appM M8 cZ [] = crashM M8 from app_off (by rw [HM8.out] <;> rfl) (by rw [HM8.out] <;> rfl))
  have EY := Lib.hid (show readM (startM (crashM M8)) cOld = a from crash_read (M := M8) (i := 0) (by rw [HM8.out] <;> rfl) (by rw [HM8.out] <;> rfl) (by rw [HM8.out] <;> rfl))
  have IY := Lib.hid (show isB (startM (crashM M8)) cOld = true from crash_isB (M := M8) (i := 0) (by rw [HM8.out] <;> rfl))
  have EW := Lib.hid (show readM (startM (crashM M8)) cNew = [] from crash_read_no (M := M8) (by rw [HM8.out] <;> rfl))
  have IW := Lib.hid (show isB (startM (crashM M8)) cNew = false from crash_isB_no (M := M8) (by rw [HM8.out] <;> rfl))
  go_enter Try.func7, Try.ntmps7
  go_upto_region 21 with (first
    | (go_at_call 9; (with_reducible refine (CA.out _).mono ?_); rintro e w1 ⟨rfl, hb1⟩; have N0 := Lib.hid (New_in (w0 := w) (w := w1) (o := fun _ => none) 0 (fun _ _ => rfl) hb1 (fun _ _ => rfl)))
    | (go_at_call 10; (with_reducible refine N0.out.mono ?_); rintro e w2 ⟨p, o2, rfl, h2, T2⟩; clear T2; rw [RM0.out] at h2)
    | (go_at_call 11; (with_reducible refine (App_in h2 cNew (by decide) _ (a) (HA.out.ext h2.below) (Free.arg h2.base HA.out) (by first | omega | decide) (by omega) (by omega)).mono ?_); rintro e wq1 ⟨rfl, _, hq1, Thq1⟩; clear h2; clear Thq1; rw [RM1.out] at hq1)
    | (go_at_call 11; (with_reducible refine (App_in hq1 cOld (by decide) _ (b) (HB.out.ext hq1.below) (Free.arg hq1.base HB.out) (by first | omega | decide) (by omega) (by omega)).mono ?_); rintro e wq2 ⟨rfl, _, hq2, Thq2⟩; clear hq1; clear Thq2; rw [RM2.out] at hq2)
    | (go_at_call 13; (with_reducible refine (Sync_in hq2 cNew (by decide) (by omega) (by omega)).mono ?_); rintro e wq3 ⟨rfl, _, hq3, Thq3⟩; clear hq2; clear Thq3; rw [RM3.out] at hq3)
    | (go_at_call 13; (with_reducible refine (Sync_in hq3 cOld (by decide) (by omega) (by omega)).mono ?_); rintro e wq4 ⟨rfl, _, hq4, Thq4⟩; clear hq3; clear Thq4; rw [RM4.out] at hq4)
    | (go_at_call 15; (with_reducible refine (Dir_in hq4 (by omega) (by omega)).mono ?_); rintro e wq5 ⟨rfl, _, hq5, Thq5⟩; clear hq4; clear Thq5; rw [RM5.out] at hq5)
    | (go_at_call 25; (with_reducible refine (Ren_in hq5 cNew cOld (by decide) (by decide) (by omega) (by omega)).mono ?_); rintro e wq6 ⟨he, _, hq6, Thq6⟩; rw [G6.out] at he; subst he; clear hq5; clear Thq6; rw [RM6.out] at hq6)
    | (go_at_call 15; (with_reducible refine (Dir_in hq6 (by omega) (by omega)).mono ?_); rintro e wq7 ⟨rfl, _, hq7, Thq7⟩; clear hq6; clear Thq7; rw [RM7.out] at hq7)
    | (go_at_call 21; (with_reducible refine (Read_in hq7 cOld (by decide) (by first | omega | (simp only [List.length_nil]; omega))).mono ?_); rintro e wq8 ⟨vX, he, hoX, hbX, hq8⟩; rw [IX.out] at he; subst he; have hrX := read_cast hoX EX.out; clear hoX; obtain ⟨AX, cX, rfl⟩ := row_slC hrX; have BX := Held.own (k := 0) hq7.own hrX; have capX := row_cap hrX; clear hrX; clear hbX; clear hq7)
    | (go_at_call 21; (with_reducible refine (Read_in hq8 cNew (by decide) (by first | omega | (simp only [List.length_nil]; omega))).mono ?_); rintro e wq9 ⟨vG, he, hoG, hbG, hq9⟩; rw [IG.out] at he; subst he; have hrG := read_cast hoG EG.out; clear hoG; obtain ⟨AG, cG, rfl⟩ := row_slC hrG; have BG := Held.own (k := 0) hq8.own hrG; have capG := row_cap hrG; clear hrG; replace BX := BX.ext hbG; clear hbG; clear hq8)
    | ((with_reducible refine gd_rowC ?_); refine wpList_row_val (v := .bool true) rfl (.tmp 71) rfl boolsTy (by decide) rfl rfl ?_; intro wr hxr hbr hlr; have hqr := hq9.ext hbr; have FR := Lib.hid (Free.lit (k := 0) (n := 1) (c := 1) hq9.own); have BR := Lib.hid (show Bools wr (.slice (some ⟨_, 0, none⟩) 1 1) [true] from ⟨_, _, _, rfl, rfl, Nat.le_refl _, by decide, hxr.rd⟩); replace BX := BX.ext hbr; clear BG; clear hq9 hxr hbr)
    | (go_at_call 19; (with_reducible refine (Plan_in hqr 0 0 (_) [true] (by decide) (by decide) (BR.out) (FR.out) (by simp)).mono ?_); rintro e wq10 ⟨rfl, _, hq10, Thq10⟩; clear hqr; replace BX := BX.turn Thq10; clear Thq10; rw [RM8.out] at hq10)
    | (go_at_call 11; (with_reducible refine (App_in hq10 cZ (by decide) (.slice none 0 0) [] (Bytes.nil _) Free.nil (by decide) (by omega) (by omega)).mono ?_); rintro e wq11 ⟨rfl, _, hq11, Thq11⟩; clear hq10; replace BX := BX.turn Thq11; clear Thq11; rw [RM8C.out] at hq11)
    | (go_at_call 20; (with_reducible refine (Start_in hq11).mono ?_); rintro e wq12 ⟨rfl, hq12, Thq12⟩; clear hq11; replace BX := BX.turn Thq12; clear Thq12)
    | (go_at_call 21; (with_reducible refine (Read_in hq12 cOld (by decide) (by first | omega | (simp only [List.length_nil]; omega))).mono ?_); rintro e wq13 ⟨vY, he, hoY, hbY, hq13⟩; rw [IY.out] at he; subst he; have hrY := read_cast hoY EY.out; clear hoY; obtain ⟨AY, cY, rfl⟩ := row_slC hrY; have BY := Held.own (k := 0) hq12.own hrY; have capY := row_cap hrY; clear hrY; replace BX := BX.ext hbY; clear hbY; clear hq12)
    | (go_at_call 21; (with_reducible refine (Read_in hq13 cNew (by decide) (by first | omega | (simp only [List.length_nil]; omega))).mono ?_); rintro e wq14 ⟨vW, he, hoW, hbW, hq14⟩; rw [IW.out] at he; subst he; have hrW := read_cast hoW EW.out; clear hoW; obtain ⟨AW, cW, rfl⟩ := row_slC hrW; have BW := Held.own (k := 0) hq13.own hrW; have capW := row_cap hrW; clear hrW; replace BX := BX.ext hbW; replace BY := BY.ext hbW; clear hbW; clear hq13)
    | fail)
  have HVA := HA.out.ext hq14.below
  have HVB := HB.out.ext hq14.below
  have q1 := run_str (P := Try.prog) (src := 26) (dst := 9) BX.bytes u8sTy u8Ty Try.underlying9
  have q2 := run_str (P := Try.prog) (src := 26) (dst := 9) HVA u8sTy u8Ty Try.underlying9
  have q3 := run_str (P := Try.prog) (src := 26) (dst := 9) BY.bytes u8sTy u8Ty Try.underlying9
  have q4 := run_str (P := Try.prog) (src := 26) (dst := 9) BW.bytes u8sTy u8Ty Try.underlying9
  have hbl := hq14.below
  go_wp2
  go_ret
  exact ⟨by first | rfl | simp [str_eqs, str_nes], hbl⟩
end Go.Mun
