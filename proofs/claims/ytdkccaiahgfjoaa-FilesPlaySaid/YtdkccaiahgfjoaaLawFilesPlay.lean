/- 'FilesPlay' answers true at every input, and leaves what it was given. No condition. -/
import Derived.Test.YtdkccaiahgfjoaaFsPlayTop
import Derived.Test.YtdkccaiahgfjoaaRows
namespace Go.Proofs.Ytdkccaiahgfjoaa.FilesPlay
open Go Go.RowKit Go.Mun Go.Proofs Go.Maps

theorem run_row_five {P : Program} {t e : TypeId} {z : Value} {bytes : Nat} (hT : SliceTy P t e z 1 bytes) (x y u s p : Value) (hx : x.cells = #[x]) (hy : y.cells = #[y]) (hu : u.cells = #[u]) (hs : s.cells = #[s]) (hp : p.cells = #[p]) (w : World) :
    (Instr.buildSlice t 5 #[(0, x), (1, y), (2, u), (3, s), (4, p)]).run P w = .ok (.slice (some ⟨w.heap.size, 0, none⟩) 5 5) (w.alloc (.cells #[x, y, u, s, p] e)) := by
  obtain ⟨ht, i, hi, hz, hsz, hby, hzs, h0⟩ := hT
  have hf : Instr.fill (fun k => some (k * 1, 1)) ((Array.range 5).map (fun k => z.cells[k % z.cells.size]!)) [(0, x), (1, y), (2, u), (3, s), (4, p)] = some #[x, y, u, s, p] := by
    simp [Instr.fill, hx, hy, hu, hs, hp, Array.range]
    apply Array.ext_getElem?
    intro j
    match j with
    | 0 => simp
    | 1 => simp
    | 2 => simp
    | 3 => simp
    | 4 => simp
    | j + 5 => simp
  simp [Instr.buildSlice, run_underlying ht, sizeOf, typeInfo, hi, hsz, hz, zeroValue, newRow]
  simp only [Nat.mul_one] at hf
  rw [hf]
  rfl
theorem wpList_row_five {P : Program} {ops : Array Oper} {rest : List Oper} {o : Oper} {a : Act} {w : World} {Q : Exit → Act → World → Prop} (hgd : o.guard = none) {t e : TypeId} (x y r q m : Operand) (ho : o.op = .buildSlice t 5 #[(0, x), (1, y), (2, r), (3, q), (4, m)])
    {z : Value} {bytes : Nat} (hT : SliceTy P t e z 1 bytes) {v u s p n : Value} (hx : a.eval x = v) (hy : a.eval y = u) (hr : a.eval r = s) (hq : a.eval q = p) (hm : a.eval m = n) (hv : v.cells = #[v]) (hu : u.cells = #[u]) (hs : s.cells = #[s]) (hp : p.cells = #[p]) (hn : n.cells = #[n])
    (h : ∀ w', Blk w' w.heap.size e #[v, u, s, p, n] → Below w.heap.size w w' → w.heap.size < w'.heap.size → wpList P ops Q rest (a.put o.dst (.slice (some ⟨w.heap.size, 0, none⟩) 5 5)) w') : wpList P ops Q (o :: rest) a w := by
  refine wpList_plain hgd fun _ hK => ?_
  have hn := run_row_five hT v u s p n hv hu hs hp hn w
  unfold Oper.wp execOp
  simp only [ho, List.map_toArray, List.map_cons, List.map_nil, hx, hy, hr, hq, hm, Sem.run_bind, hn, Result.andThen_ok, Sem.run_pure]
  exact hK _ _ (h _ (Blk.new w e _) ((Below.refl _ _).alloc (Nat.le_refl _) _) (by simp))
theorem zActF : (Try.prog.info? 51).bind (·.zero) = some (.agg #[.int .i64 0, .string ⟨#[]⟩, .string ⟨#[]⟩, .slice none 0 0, .int .i64 0, .int .i64 0, .slice none 0 0]) := by kernel_rfl
theorem actTyF : AggTy Try.prog 51 7 := ⟨⟨_, Try.underlying51, rfl⟩, by kernel_rfl⟩
set_option maxRecDepth 100000 in
set_option maxHeartbeats 8000000 in
theorem walk (v : Value) (l : List ActF) (w : World) (h : SliceOf 7 rActF w v l) :
    Calls Try.prog 8 #[v] w fun e w' => e = .returned (.bool true) ∧ Below w.heap.size w w' := by
  have CA := Lib.hid alive_any
  obtain ⟨A, n, c, xs, rfl, g1, g2, g3, g4, g5, g6⟩ := h
  unfold maxLen at g4
  by_cases d1 : 120 < n
  · have e1 : decide ((120 : Int) < (n : Int)) = true := decide_eq_true (by omega)
    go_enter Try.func8, Try.ntmps8
    go_wp2_with (first
      | (go_at_call 9; (with_reducible refine (CA.out _).mono ?_); rintro e w1 ⟨rfl, hb1⟩)
      | fail)
    go_ret
    exact ⟨rfl, hb1⟩
  have e2 : decide ((120 : Int) < (n : Int)) = false := decide_eq_false (by omega)
  have hbT := bytesTyC
  have zA := zActF
  have hTA := actTyF
  have HX := Lib.hid (fun (k : Nat) (hk : k < n) (w' : World) (hb : Below w.heap.size w w') => actF_at (g5.ext hb) g1 g2 g6 hk)
  clear g1 g2 g5 g6
  go_enter Try.func8, Try.ntmps8
  go_wp2_with (first
    | (go_at_call 9; (with_reducible refine (CA.out _).mono ?_); rintro e w1 ⟨rfl, hb1⟩; have N0 := Lib.hid (New_in (w0 := w) (w := w1) (o := fun _ => none) 0 (fun _ _ => rfl) hb1 (fun _ _ => rfl)); have tok : True := trivial)
    | (go_at_call 10; have _t := tok; (with_reducible refine N0.out.mono ?_); rintro e w2 ⟨p, o2, rfl, h2, T2⟩; clear tok T2; have N1 := Lib.hid (New_in 2 h2.own h2.below h2.base))
    | (go_at_call 10; (with_reducible refine N1.out.mono ?_); rintro e w3 ⟨q, o3, rfl, t3, T3⟩; have h3 := h2.turn t3.own T3 (by decide); clear h2 T3)
    | ((with_reducible refine gd_box ?_); refine wpList_box_agg rfl _ (.tmp 21) rfl rfl ?_; intro w4 hx4 hb4 hl4)
    | fail)
  obtain ⟨o4, r4, T4⟩ := RfIn.made (k := 1) h3.own h3.below h3.base rfl hb4 hx4
  have h4 := h3.turn r4.own T4 (by decide)
  have t4 := t3.turn r4.own T4 (by decide)
  obtain ⟨r, hr⟩ : ∃ r, r = w3.heap.size := ⟨_, rfl⟩
  simp only [← hr] at r4 ⊢
  clear T4 h3 t3 hx4 hr
  go_loopw [7] (fun iv wr => ∃ (i : Nat) (M Mo : FSs) (o : Own), i ≤ n ∧ iv = .int .i64 (i : Nat) ∧ FsIn 0 p M o (2 * i) (200 * i) w wr ∧ RfIn 1 r M o (2 * i) (200 * i) w wr ∧ FsIn 2 q Mo o (2 * i) (200 * i) w wr) (fun iv _ => n - (RowKit.intOf iv).toNat)
  case atStart => exact ⟨0, newM, newM, o4, Nat.zero_le _, rfl, h4, r4, t4⟩
  case round =>
    clear h4 r4 t4
    obtain ⟨i, M, Mo, o, hi, rfl, hF, hR, hT⟩ := hrel
    by_cases hlt : i < n
    · have f0 : decide ((i : Int) < (n : Int)) = true := decide_eq_true (by omega)
      have i1 := Int.natCast_nonneg i
      have i2 : (i : Int) < (n : Int) := by omega
      obtain ⟨ad, x, vb, vk, rfl, c0, c1, c2, c3, c4, c5, c6, hok, hb, hk⟩ := HX.out i hlt wr hF.below
      have HB := Lib.hid hb
      have HK := Lib.hid hk
      obtain ⟨Ab, nb, cb, rfl, hbn, hbc, hbm, _⟩ := hb
      obtain ⟨Ak, nk, ck, rfl, hkn, hkc, hkm, _⟩ := hk
      by_cases k1 : 200 < nb
      · have u1 : decide ((200 : Int) < (nb : Int)) = true := decide_eq_true (by omega)
        go_wp2_with (first
          | ((with_reducible refine gd_alloc ?_); refine wpList_alloc_blk rfl 51 rfl zA ?_; intro w2 hx2 hb2 hl2)
          | ((with_reducible refine gd_store ?_); refine wpList_store_all rfl 51 (.tmp 8) (.tmp 32) rfl #[.int .i64 x.way, .string ⟨x.a.toArray⟩, .string ⟨x.t.toArray⟩, .slice Ab nb cb, .int .i64 x.op, .int .i64 x.cut, .slice Ak nk ck] hx2 hTA rfl rfl rfl rfl ?_; intro w3 hx3 hg3; have hb3 := below_blk hb2 hb2.size hg3 (Nat.le_refl _); have G3 : LoneB o w3 wr.heap.size 51 #[.int .i64 x.way, .string ⟨x.a.toArray⟩, .string ⟨x.t.toArray⟩, .slice Ab nb cb, .int .i64 x.op, .int .i64 x.cut, .slice Ak nk ck] := ⟨hx3, hF.own _ (Nat.le_refl _)⟩; have y0 := hx3.cellv (i := 0) rfl; have y1 := hx3.cellv (i := 1) rfl; have y2 := hx3.cellv (i := 2) rfl; have y3 := hx3.cellv (i := 3) rfl; have y4 := hx3.cellv (i := 4) rfl; have y5 := hx3.cellv (i := 5) rfl; have y6 := hx3.cellv (i := 6) rfl)
          | fail)
        go_ret
        exact ⟨rfl, below_step hF.below hb3⟩
      have u1 : decide ((200 : Int) < (nb : Int)) = false := decide_eq_false (by omega)
      by_cases k2 : 200 < x.a.length
      · have u2 : decide ((200 : Int) < (x.a.length : Int)) = true := decide_eq_true (by omega)
        go_wp2_with (first
          | ((with_reducible refine gd_alloc ?_); refine wpList_alloc_blk rfl 51 rfl zA ?_; intro w2 hx2 hb2 hl2)
          | ((with_reducible refine gd_store ?_); refine wpList_store_all rfl 51 (.tmp 8) (.tmp 32) rfl #[.int .i64 x.way, .string ⟨x.a.toArray⟩, .string ⟨x.t.toArray⟩, .slice Ab nb cb, .int .i64 x.op, .int .i64 x.cut, .slice Ak nk ck] hx2 hTA rfl rfl rfl rfl ?_; intro w3 hx3 hg3; have hb3 := below_blk hb2 hb2.size hg3 (Nat.le_refl _); have G3 : LoneB o w3 wr.heap.size 51 #[.int .i64 x.way, .string ⟨x.a.toArray⟩, .string ⟨x.t.toArray⟩, .slice Ab nb cb, .int .i64 x.op, .int .i64 x.cut, .slice Ak nk ck] := ⟨hx3, hF.own _ (Nat.le_refl _)⟩; have y0 := hx3.cellv (i := 0) rfl; have y1 := hx3.cellv (i := 1) rfl; have y2 := hx3.cellv (i := 2) rfl; have y3 := hx3.cellv (i := 3) rfl; have y4 := hx3.cellv (i := 4) rfl; have y5 := hx3.cellv (i := 5) rfl; have y6 := hx3.cellv (i := 6) rfl)
          | fail)
        go_ret
        exact ⟨rfl, below_step hF.below hb3⟩
      have u2 : decide ((200 : Int) < (x.a.length : Int)) = false := decide_eq_false (by omega)
      by_cases k3 : 200 < x.t.length
      · have u3 : decide ((200 : Int) < (x.t.length : Int)) = true := decide_eq_true (by omega)
        go_wp2_with (first
          | ((with_reducible refine gd_alloc ?_); refine wpList_alloc_blk rfl 51 rfl zA ?_; intro w2 hx2 hb2 hl2)
          | ((with_reducible refine gd_store ?_); refine wpList_store_all rfl 51 (.tmp 8) (.tmp 32) rfl #[.int .i64 x.way, .string ⟨x.a.toArray⟩, .string ⟨x.t.toArray⟩, .slice Ab nb cb, .int .i64 x.op, .int .i64 x.cut, .slice Ak nk ck] hx2 hTA rfl rfl rfl rfl ?_; intro w3 hx3 hg3; have hb3 := below_blk hb2 hb2.size hg3 (Nat.le_refl _); have G3 : LoneB o w3 wr.heap.size 51 #[.int .i64 x.way, .string ⟨x.a.toArray⟩, .string ⟨x.t.toArray⟩, .slice Ab nb cb, .int .i64 x.op, .int .i64 x.cut, .slice Ak nk ck] := ⟨hx3, hF.own _ (Nat.le_refl _)⟩; have y0 := hx3.cellv (i := 0) rfl; have y1 := hx3.cellv (i := 1) rfl; have y2 := hx3.cellv (i := 2) rfl; have y3 := hx3.cellv (i := 3) rfl; have y4 := hx3.cellv (i := 4) rfl; have y5 := hx3.cellv (i := 5) rfl; have y6 := hx3.cellv (i := 6) rfl)
          | fail)
        go_ret
        exact ⟨rfl, below_step hF.below hb3⟩
      have u3 : decide ((200 : Int) < (x.t.length : Int)) = false := decide_eq_false (by omega)
      by_cases k4 : 100 < nk
      · have u4 : decide ((100 : Int) < (nk : Int)) = true := decide_eq_true (by omega)
        go_wp2_with (first
          | ((with_reducible refine gd_alloc ?_); refine wpList_alloc_blk rfl 51 rfl zA ?_; intro w2 hx2 hb2 hl2)
          | ((with_reducible refine gd_store ?_); refine wpList_store_all rfl 51 (.tmp 8) (.tmp 32) rfl #[.int .i64 x.way, .string ⟨x.a.toArray⟩, .string ⟨x.t.toArray⟩, .slice Ab nb cb, .int .i64 x.op, .int .i64 x.cut, .slice Ak nk ck] hx2 hTA rfl rfl rfl rfl ?_; intro w3 hx3 hg3; have hb3 := below_blk hb2 hb2.size hg3 (Nat.le_refl _); have G3 : LoneB o w3 wr.heap.size 51 #[.int .i64 x.way, .string ⟨x.a.toArray⟩, .string ⟨x.t.toArray⟩, .slice Ab nb cb, .int .i64 x.op, .int .i64 x.cut, .slice Ak nk ck] := ⟨hx3, hF.own _ (Nat.le_refl _)⟩; have y0 := hx3.cellv (i := 0) rfl; have y1 := hx3.cellv (i := 1) rfl; have y2 := hx3.cellv (i := 2) rfl; have y3 := hx3.cellv (i := 3) rfl; have y4 := hx3.cellv (i := 4) rfl; have y5 := hx3.cellv (i := 5) rfl; have y6 := hx3.cellv (i := 6) rfl)
          | fail)
        go_ret
        exact ⟨rfl, below_step hF.below hb3⟩
      have u4 : decide ((100 : Int) < (nk : Int)) = false := decide_eq_false (by omega)
      have hsh : Short x.a x.t x.b x.keep := ⟨by omega, by omega, by omega, by omega⟩
      have HOK := Lib.hid hok
      have HSH := Lib.hid hsh
      go_wp2_with (first
        | ((with_reducible refine gd_alloc ?_); refine wpList_alloc_blk rfl 51 rfl zA ?_; intro w2 hx2 hb2 hl2)
        | ((with_reducible refine gd_store ?_); refine wpList_store_all rfl 51 (.tmp 8) (.tmp 32) rfl #[.int .i64 x.way, .string ⟨x.a.toArray⟩, .string ⟨x.t.toArray⟩, .slice Ab nb cb, .int .i64 x.op, .int .i64 x.cut, .slice Ak nk ck] hx2 hTA rfl rfl rfl rfl ?_; intro w3 hx3 hg3; have hb3 := below_blk hb2 hb2.size hg3 (Nat.le_refl _); have G3 : LoneB o w3 wr.heap.size 51 #[.int .i64 x.way, .string ⟨x.a.toArray⟩, .string ⟨x.t.toArray⟩, .slice Ab nb cb, .int .i64 x.op, .int .i64 x.cut, .slice Ak nk ck] := ⟨hx3, hF.own _ (Nat.le_refl _)⟩; have y0 := hx3.cellv (i := 0) rfl; have y1 := hx3.cellv (i := 1) rfl; have y2 := hx3.cellv (i := 2) rfl; have y3 := hx3.cellv (i := 3) rfl; have y4 := hx3.cellv (i := 4) rfl; have y5 := hx3.cellv (i := 5) rfl; have y6 := hx3.cellv (i := 6) rfl)
        | ((with_reducible refine gd_rowC ?_); refine wpList_row_five rfl (.const (.int .u8 111)) (.const (.int .u8 116)) (.const (.int .u8 104)) (.const (.int .u8 101)) (.const (.int .u8 114)) rfl hbT (v := .int .u8 111) (u := .int .u8 116) (s := .int .u8 104) (p := .int .u8 101) (n := .int .u8 114) rfl rfl rfl rfl rfl rfl rfl rfl rfl rfl ?_; intro w4 hx4 hb4 hl4)
        | ((with_reducible refine gd_convert ?_); refine wpList_lit rfl (.tmp 59) rfl u8sTy u8Ty rfl hx4 (l := [111, 116, 104, 101, 114]) rfl rfl (Nat.le_refl _) (by decide) ?_; intro w5 hg5 hs5 B5; have hb5 := below_blk hb4 hb4.size hg5 (Nat.le_refl _); have hb35 := below_step hb3 hb5; have h5 := hF.ext hb35; have R5 := hR.ext hb35; have t5 := hT.ext hb35; have G5 := G3.ext hb5; have F5 := Lib.hid (Free.lit (k := 2) (n := 5) (c := 5) (hF.own.more hb3.size)); clear hF hR hT G3)
        | (go_at_call 11; (with_reducible refine (App_in t5 x.a (by omega) _ [111, 116, 104, 101, 114] B5 F5.out (by decide) (by omega) (by omega)).mono ?_); rintro e w6 ⟨rfl, o6, t6, T6⟩; have h6 := h5.turn t6.own T6 (by decide); have R6 := R5.turn t6.own T6 (by decide); have G6 := G5.turn T6; clear h5 R5 t5 G5 T6)
        | ((with_reducible refine gd_load ?_); refine wpList_load_blk rfl 51 (.tmp 8) rfl G6.blk hTA rfl ?_)
        | (go_at_call 27; (with_reducible refine (step_any ⟨h6, R6, t6, ⟨HOK.out.o1, HOK.out.o2⟩, ⟨HOK.out.c1, HOK.out.c2⟩, HB.out, HK.out, HSH.out, by omega, by omega⟩).mono ?_); rintro e w7 ⟨rfl, M7, o7, h7, R7, t7⟩; clear h6 R6 t6 G6)
        | (go_at_call 28; (with_reducible refine (same_any h7 R7 (by omega) (by omega)).mono ?_); rintro e w8 ⟨rfl, hb8⟩; have h8 := (h7.ext hb8).more (show _ ≤ 2 * (i + 1) by omega) (show _ ≤ 200 * (i + 1) by omega); have R8 := (R7.ext hb8).more (show _ ≤ 2 * (i + 1) by omega) (show _ ≤ 200 * (i + 1) by omega); have t8 := (t7.ext hb8).more (show _ ≤ 2 * (i + 1) by omega) (show _ ≤ 200 * (i + 1) by simp only [List.length_cons, List.length_nil]; omega))
        | fail)
      go_roundw
      case rel => first | exact ⟨i + 1, M7, _, o7, by omega, by go_num, h8, R8, t8⟩ | ((repeat apply Exists.intro); exact ⟨⟨i + 1, M7, _, o7, by omega, by go_num, h8, R8, t8⟩, rfl⟩)
      case measure => simp [RowKit.intOf]; omega
    · obtain rfl : i = n := by omega
      have f0 : decide ((i : Int) < (i : Int)) = false := decide_eq_false (by omega)
      go_wp2
      go_ret
      exact ⟨rfl, hF.below⟩
open Go.ChangeShapes Go.WideShapes Go.ChangeAt

set_option maxRecDepth 100000 in
theorem lifted (os : Os) (started : os.Started) (H : Type) (enc : TypeId × Value → H) :
    ReturnsInHanded {} Try.checked os 8 .any (Rows.filesPlaySpec.pre6 enc Try.prog Try.f8 Rows.filesPlayRow.domain false) (Rows.filesPlaySpec.post enc Try.prog Try.f8 false true false false) := by
  refine law_lift (C := Try.checked) (ts := [49]) (tb := 4) (by kernel_rfl) started (by kernel_rfl) Try.func8
    (ChangeSpec.witness6 (enc := enc) (C := Try.checked) false ⟨#[], #[.slice none 0 0], []⟩ 8 (by kernel_rfl) (by kernel_rfl) (by kernel_rfl) (by kernel_rfl))
    (by kernel_rfl) (by kernel_rfl) (by kernel_rfl) (by kernel_rfl) Try.underlying4 rfl (fun ds h => by match ds, h with | [_], _ => rfl) ?_
  intro W vs hl h
  match vs, hl with
  | [v0], _ =>
    have hns := h 0 _ v0 rfl rfl
    obtain ⟨l1, h1⟩ := arg_slice Try.underlying49 (by kernel_rfl) (opens_actF enc) hns
    exact walk _ l1 W h1

theorem over : Rows.filesPlayRow.holds Try.pinned (OpenSpec.ofChange Rows.filesPlaySpec) :=
  OpenClaim.holds_of_wide 8 Try.f8 rfl rfl rfl rfl rfl rfl rfl ⟨rfl, rfl, rfl, rfl, rfl⟩ rfl rfl rfl rfl rfl (by kernel_rfl) Try.func8 (by kernel_rfl)
    (of_decide_eq_true (by kernel_rfl)) (by unfold Func.isWrapper; first | (rw [if_pos (by decide +kernel)]; kernel_rfl) | (rw [if_neg (by decide +kernel)]; exact ⟨rfl, rfl⟩))
    (fun os started H enc _ => lifted os started H enc)
end Go.Proofs.Ytdkccaiahgfjoaa.FilesPlay
namespace Go.Proofs.Ytdkccaiahgfjoaa
theorem filesPlay_holds : Rows.FilesPlaySaid := FilesPlay.over
#print axioms filesPlay_holds
end Go.Proofs.Ytdkccaiahgfjoaa
