/- KV.with: the pairs behind changes. -/
import Derived.Test.YthjnebngdcdicaaKvFn
namespace Go.Mun
open Go Go.RowKit Go.Proofs Go.Maps

/-- what each operation of the region writes -/
def SWi (q g bm : Nat) (kv vv : Value) (key val : List UInt8) : Nat → Value → World → Prop
  | 0, v, _ => v = .map (some bm)
  | 1, v, _ => v = .pointer (some ⟨g, 1, none⟩)
  | 2, v, _ => v = kv
  | 3, v, _ => v = .string ⟨key.toArray⟩
  | 4, v, _ => v = .pointer (some ⟨g, 2, none⟩)
  | 5, v, _ => v = vv
  | 6, v, w => w.ownsRow q 5 1 v val.length (bv val)
  | _, _, _ => True
theorem SWi_stays (q g bm : Nat) (kv vv : Value) (key val : List UInt8) (hbq : bm < q) : ∀ i v (wa wb : World), wa.grownBy wb (some bm) → SWi q g bm kv vv key val i v wa → SWi q g bm kv vv key val i v wb
  | 0, _, _, _, _, h => h
  | 1, _, _, _, _, h => h
  | 2, _, _, _, _, h => h
  | 3, _, _, _, _, h => h
  | 4, _, _, _, _, h => h
  | 5, _, _, _, _, h => h
  | 6, _, _, _, hb, h => own_kept h hb hbq
  | _ + 7, _, _, _, _, h => h
theorem grown_low {w w' : World} {r : Option Nat} {n : Nat} (hg : w.grownBy w' r) (hr : ∀ x, r = some x → n ≤ x) (hn : n ≤ w.heap.size) : Below n w w' :=
  ⟨hg.os, hg.tape, hg.output, hg.size, fun k hk => hg.block k (by omega) (fun e => by have := hr k e.symm; omega)⟩
/-- how far the region has come -/
structure JWi (q bm N : Nat) (T : PL (Value × List UInt8)) (key val : List UInt8) (L : Nat → Bool) (_V : Nat → Value) (w : World) : Prop where
  map0 : L 7 = false → MapV w bm T N
  map1 : L 7 = true → ∃ u, MapV w bm (setP T key (some (u, val))) (N + 1) ∧ w.ownsRow q 5 1 u val.length (bv val)
  low : q ≤ w.heap.size
section
variable {q bm N : Nat} {T : PL (Value × List UInt8)} {key val : List UInt8} {L : Nat → Bool} {V : Nat → Value} {w w' : World}
theorem JWi.far (h : JWi q bm N T key val L V w) {k : Nat} {v : Value} (h7 : (7 : Nat) ≠ k) : JWi q bm N T key val (updL L k) (upd V k v) w :=
  ⟨fun e => h.map0 (by rwa [updL_ne h7] at e), fun e => h.map1 (by rwa [updL_ne h7] at e), h.low⟩
theorem JWi.ext (h : JWi q bm N T key val L V w) (hb : Below w.heap.size w w') : JWi q bm N T key val L V w' :=
  ⟨fun e => (h.map0 e).ext hb, fun e => by obtain ⟨u, h1, h2⟩ := h.map1 e; exact ⟨u, h1.ext hb, own_ext h2 hb⟩, Nat.le_trans h.low hb.size⟩
theorem JWi.put (h : JWi q bm N T key val L V w) {v u : Value} (hm : MapV w' bm (setP T key (some (u, val))) (N + 1)) (hg : w.grownBy w' (some bm)) (ho : w'.ownsRow q 5 1 u val.length (bv val)) : JWi q bm N T key val (updL L 7) (upd V 7 v) w' :=
  ⟨fun e => (by rw [updL_same] at e; cases e), fun _ => ⟨u, hm, ho⟩, Nat.le_trans h.low hg.size⟩
end
/-- what lies in a map that is being made -/
structure WithM (o : Own) (w0 w : World) (bm : Nat) (S : PLB) (N : Nat) : Prop where
  map : ∃ T : PL (Value × List UInt8), MapV w bm T N ∧ mapP (·.2) T = S ∧ ∀ e ∈ T, Lone o w e.2.1 e.2.2 ∧ (∀ ad n c, e.2.1 = .slice (some ad) n c → 0 < n → ad.block ≠ bm)
  fresh : w0.heap.size ≤ bm
theorem lone_put {o : Own} {w w' : World} {v : Value} {l : List UInt8} {bm : Nat} (h : Lone o w v l) (hn : ∀ ad n c, v = .slice (some ad) n c → 0 < n → ad.block ≠ bm) (hg : w.grownBy w' (some bm)) : Lone o w' v l := by
  obtain ⟨hb, h2⟩ := h
  refine ⟨?_, h2⟩
  obtain ⟨A, n, c, rfl, h1⟩ := id hb
  cases A with
  | none =>
    obtain ⟨A', n', c', e, g1, g2, g3, g4⟩ := hb
    injection e with e1 e2 e3
    subst e1 e2 e3
    refine ⟨_, _, _, rfl, g1, g2, g3, fun j u hu => ?_⟩
    obtain ⟨ad, e, _⟩ := g4 j u hu
    cases e
  | some ad =>
    by_cases hz : 0 < n
    · exact hb.grownB hg fun ad' e => by injection e with e; subst e; intro e2; injection e2 with e2; exact hn _ _ _ rfl hz e2
    · obtain ⟨A', n', c', e, g1, g2, g3, g4⟩ := hb
      injection e with e1 e2 e3
      subst e1 e2 e3
      refine ⟨_, _, _, rfl, g1, g2, g3, fun j u hu => ?_⟩
      have : j < (bv l).length := (List.getElem?_eq_some_iff.1 hu).1
      rw [bv_length] at this
      omega
set_option maxRecDepth 100000 in
set_option maxHeartbeats 4000000 in
theorem with_any {j q p : Nat} {S : PLB} {clean dead : Bool} {o : Own} {N : Nat} {w : World} (h : KvAt j q p S clean dead o N w) (hown : OwnIn o w) (vl : Value) (l : List Rec) (hl : SliceOf 3 rOp w vl l) (hw : WideL l) (hN : N ≤ 1000000) :
    Calls Try.prog 34 #[.pointer (some ⟨q, 0, none⟩), vl] w fun e w' => ∃ bm, e = .returned (.map (some bm)) ∧ KvMap o w' bm (doneP S l) (N + l.length) ∧ Below w.heap.size w w' := by
  obtain ⟨⟨b0, hx, ⟨⟨T0, hM0, hTS0, hL0⟩, _⟩⟩, _, hf0⟩ := h
  obtain ⟨A, n, c, xs, rfl, g1, g2, g3, g4, g5, g6⟩ := hl
  unfold maxLen at g4
  have y1 := hx.cellv (i := 1) rfl
  have CC := Lib.hid (CloneM_any hM0)
  have hblt := hM0.lt
  have zO := zOp
  have hTO := opTy
  have HW := Lib.hid hw
  have hn2 : n ≤ 2000 := by have := hw.1; omega
  have HX := Lib.hid (fun w' (hB : Below w.heap.size w w') k (hk : k < n) => op_full (g5.ext hB) g1 g2 g6 hk)
  have HL := Lib.hid g1
  have HTK := Lib.hid (show l.take n = l by rw [← g1]; exact List.take_length)
  have HL0 := Lib.hid hL0
  have HTS0 := Lib.hid hTS0
  have HON := Lib.hid hown
  clear g1 g2 g5 g6 hM0 hL0 hTS0 hw hx
  go_enter Try.func34, Try.ntmps34
  go_wp2_with (first
    | (go_at_call 50; (with_reducible refine CC.out.mono ?_); rintro e w1 ⟨rfl, hM1, hb1⟩)
    | fail)
  obtain ⟨bm, hbm⟩ : ∃ x, x = w.heap.size := ⟨_, rfl⟩
  rw [← hbm] at hM1 ⊢
  have HBM := Lib.hid hbm
  clear hbm
  go_loopw [15] (fun iv wr => ∃ k : Nat, k ≤ n ∧ iv = .int .i64 k ∧ WithM o w wr bm (doneP S (l.take k)) (N + k) ∧ Below w.heap.size w wr) (fun iv _ => n - (RowKit.intOf iv).toNat)
  case atStart =>
    refine ⟨0, Nat.zero_le _, rfl, ⟨⟨T0, hM1, ?_, fun e he => ⟨(HL0.out e he).ext hb1, fun ad n c ev hz eb => ?_⟩⟩, Nat.le_of_eq HBM.out.symm⟩, hb1⟩
    · rw [HTS0.out, List.take_zero]; rfl
    · have h1 := (HL0.out e he).bytes
      rw [ev] at h1
      have := bytes_lt h1 hz
      have := HBM.out
      omega
  case round =>
    obtain ⟨k, hk, rfl, hM, hBr⟩ := hrel
    clear hM1
    by_cases hlt : k < n
    · obtain ⟨ad, r, kv, vv, rfl, q0, q1, q2, hr, hr1, hr2, hbk, hbv⟩ := HX.out wr hBr k hlt
      have hro : OpW r := HW.out.2 r (List.mem_of_getElem? hr)
      have HRO := Lib.hid hro
      have hkm := Bytes_max hbk
      have HSN := Lib.hid (doneP_snoc S hr)
      obtain ⟨AK, nk, cK, rfl, _⟩ := id hbk
      obtain ⟨AV, nv, cV, rfl, _⟩ := id hbv
      have HKV := Lib.hid (And.intro hbk hbv)
      have f2 : decide ((k : Int) < n) = true := decide_eq_true (by omega)
      have b3 : (0 : Int) ≤ k := by omega
      have b4 : (k : Int) < n := by omega
      obtain ⟨⟨T, hMT, hTS, hLT⟩, hfr⟩ := hM
      have HTS := Lib.hid hTS
      have HLT := Lib.hid hLT
      clear hr hro hbk hbv hTS hLT hfr
      cases hdel : r.del
      all_goals rw [hdel] at q0
      · -- put
        have HDEL := Lib.hid hdel
        clear hdel
        go_upto_region 7 with (first
          | ((with_reducible refine gd_alloc ?_); refine wpList_alloc_blk rfl 32 rfl zO ?_; intro w9 hx9 hb9 hl9)
          | ((with_reducible refine gd_store ?_); refine wpList_store_all rfl 32 (.tmp 7) (.tmp 18) rfl #[.bool false, .slice AK nk cK, .slice AV nv cV] hx9 hTO rfl rfl rfl rfl ?_; intro w10 hx10 hg10; have y0 := hx10.cellv (i := 0) rfl)
          | fail)
        have hb10 := below_blk hb9 hb9.size hg10 (Nat.le_refl _)
        have hB10 := below_step hBr hb10
        have hMT10 := hMT.ext hb10
        obtain ⟨q2', hq2⟩ : ∃ x, x = w10.heap.size := ⟨_, rfl⟩
        have hgb : wr.heap.size ≠ bm := by have := hMT.lt; omega
        have HBQ := Lib.hid (show bm < q2' by rw [hq2]; exact hMT10.lt)
        have hq0 : q2' ≤ w10.drew.heap.size := by rw [hq2]; exact Nat.le_refl _
        have HX10 := Lib.hid hx10
        have HX := Lib.hid (fun (w' : World) (hb : w10.drew.grownBy w' (some bm)) => (show Blk w10.drew wr.heap.size _ _ from HX10.out).grown hb (by intro e; injection e with e; exact hgb e))
        have hBW : ∀ w', w10.drew.grownBy w' (some bm) → Below w.heap.size w w' := fun w' hb => hB10.trans (grown_low (show w10.grownBy w' (some bm) from ⟨hb.os, hb.tape, hb.output, hb.size, hb.block⟩) (fun x e => by injection e with e; have := HBM.out; omega) (by have := hB10.size; omega))
        have HBW := Lib.hid hBW
        have HK := Lib.hid (fun (w' : World) (hb : w10.drew.grownBy w' (some bm)) => HKV.out.1.ext (HBW.out _ hb))
        have HV := Lib.hid (fun (w' : World) (hb : w10.drew.grownBy w' (some bm)) => HKV.out.2.ext (HBW.out _ hb))
        have HVL := Lib.hid (show r.value.length ≤ 140737488355328 by have := HRO.out.value; omega)
        have HKM := Lib.hid hkm
        have HNM := Lib.hid (show N + k < maxLen by unfold maxLen; omega)
        have HQ2 := Lib.hid hq2
        have HB10 := Lib.hid hb10
        clear hx9 hb9 hg10 hl9 y0 hx10 hBW hkm hMT hq2 hb10 hB10 hgb
        refine wp_region_phase (by kernel_rfl) (by kernel_rfl) (by kernel_rfl) (fun w w' => w.grownBy w' (some bm)) (fun _ => World.grownBy.refl _ _) (fun _ _ _ h k => h.trans k) (SWi q2' wr.heap.size bm (.slice AK nk cK) (.slice AV nv cV) r.key r.value) (SWi_stays _ _ _ _ _ _ _ HBQ.out) (JWi q2' bm (N + k) T r.key r.value) ⟨fun _ => hMT10, fun e => (by cases e), hq0⟩ ?_ ?_
        · simp only [PhStep]
          refine ⟨?_, ?_, ?_, ?_, ?_, ?_, ?_, ?_, trivial⟩
          · intro L V w' hb hj hl hdo hcl hd
            clear hdo hcl
            clear hd
            refine ⟨?_⟩
            simp only [fill]
            go_wp2
            exact ⟨⟨rfl, rfl, World.grownBy.refl _ _, rfl⟩, hj.far (by decide)⟩
          · intro L V w' hb hj hl hdo hcl hd
            clear hdo hcl
            clear hd
            refine ⟨?_⟩
            simp only [fill]
            go_wp2
            exact ⟨⟨rfl, rfl, World.grownBy.refl _ _, rfl⟩, hj.far (by decide)⟩
          · intro L V w' hb hj hl hdo hcl hd
            have yj := (HX.out _ hb).cellv (i := 1) rfl
            clear hdo hcl
            simp only [DepFacts, SWi, Region.binds, forall_const, and_true] at hd
            refine ⟨?_⟩
            simp only [fill, hd]
            clear hd
            go_wp2
            exact ⟨⟨rfl, rfl, World.grownBy.refl _ _, rfl⟩, hj.far (by decide)⟩
          · intro L V w' hb hj hl hdo hcl hd
            have yq := run_str (P := Try.prog) (src := 22) (dst := 9) (HK.out _ hb) Try.underlying22 Try.underlying5 Try.underlying9
            clear hdo hcl
            simp only [DepFacts, SWi, Region.binds, forall_const, and_true] at hd
            refine ⟨?_⟩
            simp only [fill, hd]
            clear hd
            go_wp2
            exact ⟨⟨rfl, rfl, World.grownBy.refl _ _, rfl⟩, hj.far (by decide)⟩
          · intro L V w' hb hj hl hdo hcl hd
            clear hdo hcl
            clear hd
            refine ⟨?_⟩
            simp only [fill]
            go_wp2
            exact ⟨⟨rfl, rfl, World.grownBy.refl _ _, rfl⟩, hj.far (by decide)⟩
          · intro L V w' hb hj hl hdo hcl hd
            have yj := (HX.out _ hb).cellv (i := 2) rfl
            clear hdo hcl
            simp only [DepFacts, SWi, Region.binds, forall_const, and_true] at hd
            refine ⟨?_⟩
            simp only [fill, hd]
            clear hd
            go_wp2
            exact ⟨⟨rfl, rfl, World.grownBy.refl _ _, rfl⟩, hj.far (by decide)⟩
          · intro L V w' hb hj hl hdo hcl hd
            have hq := hj.low
            have h7 : L 7 = false := Bool.eq_false_iff.2 fun e => by have := hcl 7 6 (by kernel_rfl) e; rw [this] at hl; cases hl
            have hvv := HV.out _ hb
            clear hdo hcl
            simp only [DepFacts, SWi, Region.binds, forall_const, and_true] at hd
            refine ⟨?_⟩
            simp only [fill, hd]
            clear hd
            simp only [Act.put, List.setIfInBounds_toArray, List.set_cons_zero, List.set_cons_succ]
            go_wp2_with (first | (go_at_call 35; refine (Clone_any _ r.value _ hvv HVL.out).mono ?_; rintro e w3 ⟨v3, rfl, ho3, hb3⟩) | fail)
            exact ⟨⟨rfl, rfl, ⟨hb3.os, hb3.tape, hb3.output, hb3.size, fun k hk _ => hb3.block k hk⟩, own_base ho3 hq⟩, (hj.ext hb3).far (by decide)⟩
          · intro L V w' hb hj hl hdo hcl hd
            have hm := hj.map0 hl
            have hq := hj.low
            clear hdo hcl
            simp only [DepFacts, SWi, Region.binds, forall_const, and_true] at hd
            obtain ⟨d0, d3, d6, _⟩ := hd
            obtain ⟨A6, c6, e6⟩ := own_sl d6
            rw [e6] at d6
            refine ⟨?_⟩
            simp only [fill, d0, d3, e6]
            clear d0 d3 e6
            simp only [Act.put, List.setIfInBounds_toArray, List.set_cons_zero, List.set_cons_succ]
            go_wp2_with (first | (at_mapUpdate; refine wpList_put_map rfl (.tmp 25) (.tmp 28) (.tmp 31) _ _ rfl mapTy rfl hm HNM.out HKM.out rfl rfl r.value ?_; intro w3 hM3 hg3) | fail)
            exact ⟨⟨rfl, rfl, hg3, trivial⟩, hj.put hM3 hg3 (own_kept d6 hg3 HBQ.out)⟩
        · intro Lx V w3 hLx hb3 hs hj3
          obtain ⟨u, hM3, ho3⟩ := hj3.map1 (hLx 7 (by decide))
          have B3 := HBW.out _ hb3
          clear hs hj3 hLx
          simp only [fill]
          try simp only [Exit.then]
          try go_simp
          have hg3 : wr.grownBy w3 (some bm) := grown_via HB10.out (show w10.grownBy w3 (some bm) from ⟨hb3.os, hb3.tape, hb3.output, hb3.size, hb3.block⟩)
          have hWM : WithM o w w3 bm (doneP S (l.take (k + 1))) (N + (k + 1)) := by
            refine ⟨⟨_, hM3, ?_, fun e he => ?_⟩, Nat.le_of_eq HBM.out.symm⟩
            · rw [mapP_set, HTS.out, HSN.out]
              unfold Rec.left
              rw [HDEL.out]
              rfl
            · rcases mem_setP he with h' | ⟨x, e1, e2⟩
              · obtain ⟨t1, t2⟩ := HLT.out e h'
                exact ⟨lone_put t1 t2 hg3, t2⟩
              · injection e1 with e1
                subst e1
                rw [e2]
                have hq := HQ2.out
                have hsz := HB10.out.size
                have hsb := hBr.size
                refine ⟨Lone.own HON.out (by omega) ho3, fun ad n c ev hz eb => ?_⟩
                have ev' : u = .slice (some ad) n c := ev
                have h1 := (ho3.lt ad.block (by
                  rcases ho3.2 with ⟨e3, _⟩ | ⟨g, cap, cur, e3, _⟩
                  · rw [ev'] at e3; cases e3
                  · rw [ev'] at e3
                    injection e3 with e3
                    injection e3 with e3
                    rw [ev', e3]
                    rfl)).1
                have := HBQ.out
                have := HBM.out
                omega
          go_wp2
          go_roundw
          case rel => first | exact ⟨k + 1, by omega, by go_num, hWM, B3⟩ | ((repeat apply Exists.intro); exact ⟨⟨k + 1, by omega, by go_num, hWM, B3⟩, rfl⟩)
          case measure => simp [RowKit.intOf]; omega
      · -- delete
        have HDEL := Lib.hid hdel
        clear hdel
        go_upto_region 6 with (first
          | ((with_reducible refine gd_alloc ?_); refine wpList_alloc_blk rfl 32 rfl zO ?_; intro w9 hx9 hb9 hl9)
          | ((with_reducible refine gd_store ?_); refine wpList_store_all rfl 32 (.tmp 7) (.tmp 18) rfl #[.bool true, .slice AK nk cK, .slice AV nv cV] hx9 hTO rfl rfl rfl rfl ?_; intro w10 hx10 hg10; have y0 := hx10.cellv (i := 0) rfl)
          | fail)
        have hb10 := below_blk hb9 hb9.size hg10 (Nat.le_refl _)
        have hB10 := below_step hBr hb10
        have hMT10 := hMT.ext hb10
        have yk := hx10.cellv (i := 1) rfl
        have hkb10 := HKV.out.1.ext hB10
        have yq := run_str (P := Try.prog) (src := 22) (dst := 9) hkb10 Try.underlying22 Try.underlying5 Try.underlying9
        have HKM := Lib.hid hkm
        clear hkm hx9 hb9 hg10 hl9 y0
        go_wp2_with (first
          | (at_delete; refine wpList_del_map rfl (.tmp 21) (.tmp 24) _ _ rfl mapTy rfl hMT10 HKM.out rfl ?_; intro w11 hM11 hg11)
          | fail)
        have hg3 : wr.grownBy w11 (some bm) := grown_via hb10 hg11
        have B3 := below_blk hB10 hB10.size hg11 (Nat.le_of_eq HBM.out.symm)
        have hWM : WithM o w w11 bm (doneP S (l.take (k + 1))) (N + (k + 1)) := by
          refine ⟨⟨_, World.ownsMap.mono hM11 (by omega), ?_, fun e he => ?_⟩, Nat.le_of_eq HBM.out.symm⟩
          · rw [mapP_set, HTS.out, HSN.out]
            unfold Rec.left
            rw [HDEL.out]
            rfl
          · rcases mem_setP he with h' | ⟨x, e1, _⟩
            · obtain ⟨t1, t2⟩ := HLT.out e h'
              exact ⟨lone_put t1 t2 hg3, t2⟩
            · cases e1
        go_roundw
        case rel => first | exact ⟨k + 1, by omega, by go_num, hWM, B3⟩ | ((repeat apply Exists.intro); exact ⟨⟨k + 1, by omega, by go_num, hWM, B3⟩, rfl⟩)
        case measure => simp [RowKit.intOf]; omega
    · obtain rfl : k = n := by omega
      have f2 : decide ((k : Int) < k) = false := decide_eq_false (by omega)
      obtain ⟨⟨T, hMT, hTS, hLT⟩, hfr⟩ := hM
      rw [HTK.out] at hTS
      go_wp2
      go_ret
      exact ⟨_, rfl, ⟨⟨T, by rw [HL.out]; exact hMT, hTS, fun e he => (hLT e he).1⟩, HON.out _ (Nat.le_of_eq HBM.out.symm)⟩, hBr⟩
end Go.Mun
