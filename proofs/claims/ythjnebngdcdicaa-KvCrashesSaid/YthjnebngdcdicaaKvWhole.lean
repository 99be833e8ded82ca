/- KV: the bytes of a log of pairs alone. -/
import Derived.Test.YthjnebngdcdicaaKvChunk
import Derived.Test.YthjnebngdcdicaaKvBatch
namespace Go.Mun
open Go Go.RowKit Go.Proofs Go.Shelf

attribute [local go_sem] Oper.semAt_some

theorem chunk_in (A : Option Addr) (m c : Nat) (w : World) : Calls Try.prog 73 #[.slice A m c, .int .i64 1000] w fun e w' =>
    e = .returned (.func (.func 77) #[] #[.pointer (some ⟨w.heap.size, 0, none⟩), .pointer (some ⟨w.heap.size + 1, 0, none⟩)]) ∧
      Blk w' w.heap.size 40 #[.slice A m c] ∧ Blk w' (w.heap.size + 1) 3 #[.int .i64 1000] ∧ Below w.heap.size w w' ∧ w'.heap.size = w.heap.size + 2 := by
  go_enter Try.func73, Try.ntmps73
  go_wp2
  go_ret
  have b1 : Blk (w.alloc (.cells #[.slice A m c] 40)) w.heap.size 40 #[.slice A m c] := Blk.new w _ _
  have hs : (w.alloc (.cells #[.slice A m c] 40)).heap.size = w.heap.size + 1 := by simp
  refine ⟨rfl, b1.alloc _, ?_, ((Below.refl _ w).alloc (Nat.le_refl _) _).alloc (by omega) _, by simp⟩
  rw [← hs]
  exact Blk.new _ _ _
theorem chunk_stops (n : Nat) (hn : 1 ≤ n) (B1 B2 g n₀ m c : Nat) (A : Option Addr) (hm : m ≤ 2000) (hmc : m ≤ c) (w : World) (hb1 : B1 < n₀) (hb2 : B2 < n₀) (hg1 : B1 ≠ g) (hg2 : B2 ≠ g) (hn0 : n₀ ≤ w.heap.size) (h1 : Blk w B1 40 #[.slice A m c]) (h2 : Blk w B2 3 #[.int .i64 1000]) :
    SeqStopsK Fence.wide n Try.prog 77 #[.pointer (some ⟨B1, 0, none⟩), .pointer (some ⟨B2, 0, none⟩)] (fun x : Ck m => #[cval A m x.1]) (Hole g n₀) (fun ys => ys.map (·.1) = List.range (chunkN m)) (fun _ => True) (chunkN m) w :=
  fun l J Jx W hW hJ _ hY h0 =>
    chunk1_in n hn l B1 B2 g n₀ m c A hm hmc hb1 hb2 hg1 hg2 J Jx (fun s W q h => hJ s W (W.drewN q) none h ⟨rfl, rfl, rfl, Nat.le_refl _, fun _ _ _ => rfl⟩ (fun r e => by cases e)) hY W (h1.below hW (by omega)) (h2.below hW (by omega)) h0
def nd (o : Oper) : Bool := match o.op with | .defer _ => false | _ => true
def noDef (l : List Oper) : Bool := l.all nd
theorem noDef_all {l : List Oper} (h : noDef l = true) (o : Oper) (ho : o ∈ l) (c : Call) : o.op ≠ .defer c := fun e => by
  have h1 := List.all_eq_true.1 h o ho
  unfold nd at h1
  rw [e] at h1
  cases h1
theorem Oper.wpIn_mono2 {F : Fence} {n : Nat} {P : Program} {Q Q' : Exit → Act → World → Prop} {o : Oper} {a : Act} {w : World} {K K' : Act → World → Prop} (h : ∀ a w, K a w → K' a w) (hq : ∀ e a w, Q e a w → Q' e a w)
    (hh : o.wpIn F n P a w K Q) : o.wpIn F n P a w K' Q' := by
  unfold Oper.wpIn at *
  refine ⟨hh.1, ?_⟩
  have hh := hh.2
  generalize (o.semAt F.round a.eval).run P w = r at *
  cases r with
  | ok x w' =>
    cases x <;> simp only [Oper.uponIn] at hh ⊢ <;>
      first
        | exact h _ _ hh
        | exact ⟨hh.1, CallsIn.mono hh.2 (fun e w'' he => by cases e <;> first | exact h _ _ he | exact hq _ _ _ he | exact (let ⟨a, w, x⟩ := he; ⟨a, w, hq _ _ _ x⟩))⟩
        | exact ⟨hh.1, RowsIn.mono hh.2 (fun _ _ he => h _ _ he)⟩
        | exact ⟨hh.1, RoundIn.mono hh.2 (fun e w'' he => by cases e <;> first | exact h _ _ he | exact hq _ _ _ he | exact (let ⟨a, w, x⟩ := he; ⟨a, w, hq _ _ _ x⟩))⟩
  | halt x w' => cases x <;> simp only [Oper.uponIn] at hh ⊢ <;> first | exact hh | exact hq _ _ _ hh
theorem wpListIn_to {F : Fence} {n : Nat} {P : Program} {ops : Array Oper} {Q Q' : Exit → Act → World → Prop} (hq : ∀ e a w, Q e a w → Q' e a w) : ∀ {l : List Oper} {a : Act} {w : World}, wpListIn F n P ops Q l a w → wpListIn F n P ops Q' l a w
  | [], _, _, h => hq _ _ _ h
  | o :: l, a, w, h => by
    unfold wpListIn at h ⊢
    split
    · rename_i hw
      rw [if_pos hw] at h
      exact Oper.wpIn_mono2 (fun a' w' h' => wpListIn_to hq h') hq h
    · rename_i hw
      rw [if_neg hw] at h
      exact ⟨h.1, wpListIn_to hq h.2⟩
theorem to_list {P : Program} {ops : Array Oper} {Q : Exit → Act → World → Prop} {l : List Oper} {r n : Nat} {a : Act} {w : World} (hd : noDef l = true) (h : wpList P ops (Exit.then (fun a w => Q .normal a w) fun _ _ _ => False) l a w) : wpListIn (Fence.wide.inRound r) n P ops Q l a w :=
  wpListIn_to (Q := Exit.then (fun a w => Q .normal a w) fun _ _ _ => False) (fun e a w hq => by cases e <;> first | exact hq | exact hq.elim) (listIn_of (fun ⟨_, _, h⟩ => h) (noDef_all hd) h)
/-- the bytes of the parts that have come -/
def outB (S : PLB) (pre : List (Ck S.length)) : List UInt8 := pre.flatMap fun x => batchB (chunkK (opsOf S) x.1)
theorem outB_snoc (S : PLB) (pre : List (Ck S.length)) (x : Ck S.length) : outB S (pre ++ [x]) = outB S pre ++ batchB (chunkK (opsOf S) x.1) := by unfold outB; rw [List.flatMap_append]; show _ ++ (_ ++ []) = _; rw [List.append_nil]
theorem outB_len {S : PLB} (hS : FitS S) (pre : List (Ck S.length)) : (outB S pre).length ≤ pre.length * 2000013 := by
  unfold outB
  induction pre with
  | nil => simp
  | cons x pre ih =>
    rw [List.flatMap_cons, List.length_append, List.length_cons]
    have := batchB_bdW (chunk_wide hS x.1)
    omega
theorem outB_all {S : PLB} {ys : List (Ck S.length)} (h : ys.map (·.1) = List.range (chunkN S.length)) : outB S ys = wholeB S := by
  unfold outB wholeB allBB chunksOf
  rw [← h, List.map_map, List.flatMap_map]
  rfl
theorem pairTyG : AggTy Try.prog 51 2 := ⟨⟨_, Try.underlying51, rfl⟩, by kernel_rfl⟩
theorem zPairG : (Try.prog.info? 51).bind (·.zero) = some (.agg #[.slice none 0 0, .slice none 0 0]) := by kernel_rfl
/-- a pair of a row of pairs -/
theorem pairO_at {base : Nat} {w w' : World} {A : Option Addr} {n c : Nat} {xs : List Value} {S : PLB} (hx : RowC 2 (rPairO base) w xs S) (hn : S.length = n) (hb : w'.ownsRow base 51 2 (.slice A n c) n xs) {k : Nat} (hk : k < n) :
    ∃ (ad : Addr) (p : PairB) (kv vv : Value), A = some ad ∧ S[k]? = some p ∧ w'.cell? (ad.add (k * 2)) = some kv ∧ w'.cell? ⟨(ad.add (k * 2)).block, (ad.add (k * 2)).off + 1, none⟩ = some vv ∧ Bytes w kv p.1 ∧ Bytes w vv p.2 := by
  have hxl := hx.1
  obtain ⟨kv, vv, e, h1, h2⟩ := hx.2 k (by omega)
  have hg : ∀ j, j < 2 → xs[k * 2 + j]? = (chunk xs 2 k)[j]? := fun j hj => by
    unfold chunk
    rw [List.getElem?_take, if_pos hj, List.getElem?_drop]
  have hr := Rd.own hb
  obtain ⟨ad, rfl, c0⟩ := hr (k * 2) kv (by have := hg 0 (by omega); rw [Nat.add_zero] at this; rw [this, e]; rfl)
  obtain ⟨ad', e1, c1⟩ := hr (k * 2 + 1) vv (by rw [hg 1 (by omega), e]; rfl)
  injection e1 with e1
  subst e1
  rw [add_beside _ _ (by omega)] at c1
  exact ⟨ad, _, kv, vv, rfl, List.getElem?_eq_getElem (by omega), c0, c1, h1.1, Bytes.own h2⟩
set_option maxRecDepth 100000 in
set_option maxHeartbeats 4000000 in
theorem whole_any {o : Own} {w : World} {bm N : Nat} {S : PLB} (h : KvMap o w bm S N) (hS : FitS S) :
    Calls Try.prog 63 #[.map (some bm)] w fun e w' => ∃ v, e = .returned v ∧ w'.ownsRow w.heap.size 5 1 v (wholeB S).length (bv (wholeB S)) ∧ Below w.heap.size w w' := by
  have CP := Lib.hid (fun w' (hb : Below w.heap.size w w') => pairs_any (h.ext hb) hS)
  have hlen := hS.len
  have hT := bytesTyR
  have hTO := opsTy
  have hPT := pairTyG
  have zP := zPairG
  have HS := Lib.hid hS
  clear h
  refine (callsIn_wide (n := 3)).1 ?_
  refine callsIn_of_wp_marks Try.func63 rfl trivial ?_ rfl
  simp only [Try.ntmps63, List.size_toArray, List.length_cons, List.length_nil, Nat.reduceAdd, Nat.reduceSub, Array.replicate_succ, Array.replicate_zero, List.push_toArray, List.append_toArray, List.nil_append, List.cons_append]
  gi_wp2_with (first
    | (refine ⟨trivial, ?_⟩; gi_at_call 39; refine (callsIn_wide.2 (CP.out _ ((Below.refl _ w).alloc (Nat.le_refl _) _))).mono ?_; rintro e w2 ⟨v2, rfl, ⟨xs, hr2, hx2⟩, hb2⟩; obtain ⟨A, c, rfl⟩ := row_slC hr2)
    | (refine ⟨trivial, ?_⟩; gi_at_call 73; refine (callsIn_wide.2 (chunk_in A S.length c w2)).mono ?_; rintro e w3 ⟨rfl, hB1, hB2, hb3, hs3⟩)
    | fail)
  have hb1 : Below w.heap.size w (w.alloc (.cells #[.slice none 0 0] 22)) := (Below.refl _ w).alloc (Nat.le_refl _) _
  have hx1 : Blk (w.alloc (.cells #[.slice none 0 0] 22)) w.heap.size 22 #[.slice none 0 0] := Blk.new w _ _
  have hb12 := below_step hb1 hb2
  have hb13 := below_step hb12 hb3
  have hx3 := (hx1.ext hb2).ext hb3
  have hs1 : (w.alloc (.cells #[.slice none 0 0] 22)).heap.size = w.heap.size + 1 := by simp
  have hsz2 := hb2.size
  have hc : S.length ≤ c := own_cap hr2
  obtain ⟨m, hm⟩ : ∃ x, x = S.length := ⟨_, rfl⟩
  have HST := Lib.hid (chunk_stops 2 (by omega) w2.heap.size (w2.heap.size + 1) w.heap.size w3.heap.size S.length c A (by omega) hc w3 (by omega) (by omega) (by omega) (by omega) (Nat.le_refl _) hB1 hB2)
  have HPA := Lib.hid (fun (w' : World) (hb : Hole w.heap.size w3.heap.size w3 w') k (hk : k < S.length) => pairO_at hx2 rfl (hb.own (own_ext hr2 hb3) (by omega) (Nat.le_refl _)) hk)
  refine wpIn_rangeFunc_ownF (w0 := w3) rfl (by omega) (gf := 77) (lb := #[.pointer (some ⟨w2.heap.size, 0, none⟩), .pointer (some ⟨w2.heap.size + 1, 0, none⟩)]) rfl trivial (enters_of Try.func77 (by kernel_rfl) rfl)
    HST.out (fun h k => h.trans k) (fun W l o o' hl _ _ _ => Hole.put W o' hl) (Below.refl _ _) (fun _ => rfl)
    (fun pre W => ((∃ v, Blk W w.heap.size 22 #[v] ∧ W.ownsRow w3.heap.size 5 1 v (outB S pre).length (bv (outB S pre))) ∧ Hole w.heap.size w3.heap.size w3 W) ∧ Below w.heap.size w W)
    (fun _ _ _ => False)
    (fun s W W' row hs hg hr => by
      obtain ⟨⟨⟨v, hx, ho⟩, hH⟩, hB⟩ := hs
      have hs1 := hH.size
      refine ⟨⟨⟨v, hx.grown hg (fun e => by have := (hr _ e.symm).1; omega), ?_⟩, hH.trans (Hole.grown hg (fun r e => .inr (hr r e).1) hs1)⟩, hB.grown hg hB.size (fun k hk => by have := (hr k hk).1; omega)⟩
      obtain ⟨e0, h2⟩ := ho
      refine ⟨e0, h2.imp_right ?_⟩
      rintro ⟨g', cap, cur, e1, e2, e3, e4⟩
      refine ⟨g', cap, cur, e1, e2, (hg.block g' (Array.getElem?_eq_some_iff.1 e3).1 fun e => ?_).trans e3, e4⟩
      obtain ⟨_, ob, ho1, ho2⟩ := hr g' e.symm
      rw [e3] at ho1
      injection ho1 with ho1
      rw [← ho1] at ho2
      cases ho2)
    (fun _ _ _ _ _ hs _ _ => hs)
    ⟨⟨⟨_, hx3, World.ownsRow_nil _ _ _ _⟩, Hole.refl _ _ _⟩, hb13⟩
    (fun x => { tmps := #[.map (some bm), undef, .slice none 0 0, .pointer (some ⟨w.heap.size, 0, none⟩), cval A S.length x.1, undef, undef, undef, undef, undef, .map (some bm), .slice A S.length c, .func (.func 77) #[] #[.pointer (some ⟨w2.heap.size, 0, none⟩), .pointer (some ⟨w2.heap.size + 1, 0, none⟩)], cval A S.length x.1, undef, undef, undef, undef, undef, undef, undef, undef, undef, undef, undef, undef, undef, undef, undef, undef, undef, undef, undef, undef, undef, undef, undef, undef], defers := [] }) ?assign ?body ?done ?stop
  case assign =>
    intro l x W K hK
    gi_wp2
    exact hK
  case body =>
    rintro l pre x W ⟨⟨⟨v, hx, ho⟩, hB3⟩, hBW⟩ hpl
    have hol := outB_len HS.out pre
    have hcn : chunkN S.length ≤ 2 := by unfold chunkN; omega
    have hol2 : (outB S pre).length ≤ 4000026 := by omega
    clear hol hcn hpl
    obtain ⟨lo, hlo⟩ : ∃ y, y = x.1 * 1000 := ⟨_, rfl⟩
    obtain ⟨en, hen⟩ : ∃ y, y = min 1000 (S.length - lo) := ⟨_, rfl⟩
    obtain ⟨B, hBe⟩ : ∃ y, y = A.map (·.add (lo * 2)) := ⟨_, rfl⟩
    have hcv : cval A S.length x.1 = .slice B en en := by rw [hBe, hen, hlo]; rfl
    obtain ⟨L, hL⟩ : ∃ y, y = chunkK (opsOf S) x.1 := ⟨_, rfl⟩
    have hLl : L.length = en := by rw [hL, hen, hlo]; unfold chunkK; rw [List.length_take, List.length_drop, opsOf_length]
    have hLw : WideL L := by rw [hL]; exact chunk_wide HS.out _
    have hLi : ∀ (i : Nat) (p : PairB), i < en → S[lo + i]? = some p → L.take (i + 1) = L.take i ++ [opOf p] := fun i p hi hp => by
      have h1 : L[i]? = some (opOf p) := by
        rw [hL]
        unfold chunkK opsOf
        rw [List.getElem?_take, if_pos (by omega), List.getElem?_drop, List.getElem?_map, ← hlo, hp]
        rfl
      obtain ⟨h2, h3⟩ := List.getElem?_eq_some_iff.1 h1
      rw [List.take_succ_eq_append_getElem h2, h3]
    have hou := outB_snoc S pre x
    rw [← hL] at hou
    have HLI := Lib.hid hLi
    have HLW := Lib.hid hLw
    have HLL := Lib.hid hLl
    have HOU := Lib.hid hou
    have hen2 : en ≤ 1900 := by omega
    have hlen2 : lo + en ≤ S.length := by have := x.2; omega
    have HBE := Lib.hid hBe
    simp only [hcv]
    clear hcv hL hLl hLi hLw hou hBe hen hlo
    gi_wp2
    gi_loopw [5, 16] (fun vo iv wr => ∃ (i : Nat) (co : List Value), i ≤ en ∧ iv = .int .i64 i ∧ wr.ownsRow W.heap.size 32 3 vo i co ∧ RowC 3 rOp w2 co (L.take i) ∧ Below W.heap.size W wr)
      (fun _ iv _ => en - (RowKit.intOf iv).toNat)
    case atStart => exact ⟨0, [], Nat.zero_le _, rfl, World.ownsRow_nil _ _ _ _, RowC.nil _ _ _, Below.refl _ _⟩
    case round =>
      obtain ⟨i, co, hi, rfl, hco, hrc, hBr⟩ := hrel
      have hB3r := hB3.trans (Hole.below hBr hB3.size)
      by_cases hlt : i < en
      · obtain ⟨ad0, p, kv, vv, hA, hSp, c0, c1, hkb, hvb⟩ := HPA.out wr hB3r (lo + i) (by omega)
        subst hA
        obtain rfl := HBE.out
        obtain ⟨ad, had⟩ : ∃ y, y = ad0.add (lo * 2) := ⟨_, rfl⟩
        have had2 : ad0.add ((lo + i) * 2) = ad.add (i * 2) := by rw [had, add_add, Nat.add_mul]
        rw [had2] at c0 c1
        simp only [Option.map_some, ← had]
        have f2 : decide ((i : Int) < en) = true := decide_eq_true (by omega)
        have b3 : (0 : Int) ≤ i := by omega
        have b4 : (i : Int) < en := by omega
        obtain ⟨AK, nk, cK, rfl, _⟩ := id hkb
        obtain ⟨AV, nv, cV, rfl, _⟩ := id hvb
        have HTK := Lib.hid (HLI.out i p hlt hSp)
        have HRC := Lib.hid hrc
        have HKB := Lib.hid hkb
        have HVB := Lib.hid hvb
        have HCC := Lib.hid hc
        clear hrc hkb hvb hSp had had2 hc
        gi_wp2_with (first
          | ((with_reducible refine to_list ?hd ?_); (case hd => rfl); go_wp2_with (first
            | ((with_reducible refine gd_alloc ?_); refine wpList_alloc_blk rfl 51 rfl zP ?_; intro w9 hx9 hb9 hl9)
            | ((with_reducible refine gd_store ?_); refine wpList_store_all rfl 51 (.tmp 7) (.tmp 19) rfl #[.slice AK nk cK, .slice AV nv cV] hx9 hPT rfl (by rfl) rfl rfl ?_; intro w10 hx10 hg10; have hb10 := below_blk hb9 hb9.size hg10 (Nat.le_refl _); have y0 := hx10.cellv (i := 0) rfl; have y1 := hx10.cellv (i := 1) rfl)
            | (refine wpList_row_one rfl (.tmp 25) rfl hTO (by decide) (cs := #[.bool false, .slice AK nk cK, .slice AV nv cV]) rfl rfl ?_; intro w11 hx11 hb11 hl11; have hbr := below_step hb10 hb11; have hco11 := own_ext hco hbr; have hB11 := below_step hBr hbr)
            | (at_builtin; refine wpList_append_rd _ rfl (.tmp 20) (.tmp 26) _ rfl W.heap.size _ _ 3 56 hTO _ _ _ rfl hco11 (some ⟨w10.heap.size, 0, none⟩) 1 1 [.bool false, .slice AK nk cK, .slice AV nv cV] rfl rfl hx11.rd (by intro u hu; simp only [List.mem_cons, List.not_mem_nil, or_false] at hu; rcases hu with rfl | rfl | rfl <;> rfl) (by unfold maxLen; omega) (by omega) hB11.size ?_; intro vl12 w12 hco12 hg12 hat12)
            | fail))
          | fail)
        have hB12 := below_own hB11 hco11 (Nat.le_refl _) hg12 hB11.size
        go_roundw
        case rel => exact ⟨i + 1, _, by omega, by go_num, by simpa using hco12, by rw [HTK.out]; exact HRC.out.more rfl (fun _ => ⟨_, _, rfl, rfl, rfl, HKB.out, HVB.out⟩), hB12⟩
        case measure => simp [RowKit.intOf]; omega
      · obtain rfl : i = en := by omega
        have f2 : decide ((i : Int) < i) = false := decide_eq_false (by omega)
        have hops : SliceOf 3 rOp wr u5 L := by
          have h1 : RowC 3 rOp wr co (L.take i) := ⟨hrc.1, fun j hj hl => by
            obtain ⟨kv, vv, e, e1, e2, e3, e4⟩ := hrc.2 j hj hl
            exact ⟨kv, vv, e, e1, e2, hB3r.bytes hx3 (e3.ext hb3) (Nat.le_refl _), hB3r.bytes hx3 (e4.ext hb3) (Nat.le_refl _)⟩⟩
          rw [List.take_of_length_le (by rw [HLL.out]; exact Nat.le_refl _)] at h1
          exact slice_of_own hco HLL.out h1.2
        have CB := Lib.hid (Batch_okW u5 L wr hops HLW.out)
        have hxr := hx.ext hBr
        have hor := own_ext ho hBr
        have y0 := hxr.cellv (i := 0) rfl
        have HX := Lib.hid hx
        have HO := Lib.hid ho
        clear hops hrc hco hx ho
        gi_wp2_with (first
          | ((with_reducible refine to_list ?hd ?_); (case hd => rfl); go_wp2_with (first
            | (go_at_call 32; refine CB.out.mono ?_; rintro e w4 ⟨v4, rfl, ho4, hb4⟩; obtain ⟨A4, c4, rfl⟩ := row_slC ho4; have hx4 := hxr.ext hb4; have y0 := hx4.cellv (i := 0) rfl; have hor4 := own_ext hor hb4)
            | (at_builtin; refine wpList_append_bytes rfl (.tmp 34) (.tmp 35) _ rfl w3.heap.size hT rfl hor4 rfl (Bytes.own ho4) (by have := batchB_bdW HLW.out; omega) (by have := hb4.size; have := hBr.size; have := hB3.size; omega) ?_; intro v5 w5 ho5 hg5 hat5; have hx5 := hx4.grown hg5 (fun e => by have := (hor4.lt _ e.symm).1; omega))
            | ((with_reducible refine gd_store ?_); refine wpList_store_cell rfl 22 (.tmp 3) (.tmp 36) rfl (i := 0) (v := v5) hx5 (show 0 < 1 by decide) (by kernel_rfl) (own_one ho5) rfl rfl ?_; intro w6 hx6 hg6)
            | fail))
          | fail)
        have hs3W := hB3.size
        have hW4 := below_step hBr hb4
        have hs4 := hW4.size
        have hgw : w.heap.size < w3.heap.size := by omega
        have k4 : KeepsOthers W w4 := ⟨hW4.size, fun k o hk _ => (hW4.block k (Array.getElem?_eq_some_iff.1 hk).1).trans hk⟩
        have k5 : KeepsOthers w4 w5 := .of_grownBy hg5 fun j o e hj => by
          rcases hor4.2 with ⟨e1, _⟩ | ⟨g', cap, cur, e1, _, e3, _⟩
          · rw [e1] at e; cases e
          · rw [e1] at e
            injection e with e
            rw [← e, e3] at hj
            injection hj with hj
            rw [← hj]
            rfl
        have k6 : KeepsOthers w5 w6 := .of_grownBy hg6 fun j o e hj => by
          injection e with e
          rw [← e, show w5.heap[w.heap.size]? = _ from hx5] at hj
          injection hj with hj
          rw [← hj]
          rfl
        have hs5 := hg5.size
        have HW6 : Hole w.heap.size w3.heap.size W w6 := ((Hole.below hW4 (by omega)).trans (Hole.grown hg5 (fun r e => .inr (hor4.lt r e).1) (by omega))).trans (Hole.grown hg6 (fun r e => .inl (by injection e with e; exact e.symm)) (by omega))
        refine ⟨(k4.trans k5).trans k6, HW6, ⟨⟨v5, hx6, ?_⟩, hB3.trans HW6⟩, ?_⟩
        · rw [HOU.out, List.length_append]
          exact own_kept ho5 hg6 hgw
        · have hsw := hBW.size
          exact ((hBW.trans (hW4.mono hsw)).grown hg5 (by omega) (fun k hk => by have := (hor4.lt k hk).1; omega)).grown hg6 (by omega) (fun k hk => by injection hk with hk; omega)
  case done =>
    rintro D ys W hD hys ⟨⟨⟨v, hx, ho⟩, hB3⟩, hBW⟩ hK
    have y0 := hx.cellv (i := 0) rfl
    gi_wp2
    refine ⟨by simp, .inl ⟨_, _, rfl, run_takeDeferred hK, ?_⟩⟩
    rw [outB_all hys] at ho
    have hbf : Below w.heap.size w (W.putObj D (.deferred none)) := hBW.trans (belowK_b (w := w) (Nat.le_refl _) W D _ _ (by omega) hK rfl rfl)
    exact ⟨_, results_tmp rfl _ _ _, _, rfl, ownsRow_putObj (own_base ho (by omega)) _ hK rfl, hbf⟩
  case stop =>
    rintro D c pre W _ _ h _
    exact h.elim
end Go.Mun
