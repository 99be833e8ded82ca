/- KV.anew. -/
import Derived.Test.YthjnebngdcdicaaKvTail
import Derived.Test.YthjnebngdcdicaaKvOpen
namespace Go.Mun
open Go Go.RowKit Go.Proofs Go.Maps

/-- what the first operations of the region write -/
def SAn (q p bm n0 : Nat) (W : List UInt8) : Nat → Value → World → Prop
  | 0, v, _ => v = .pointer (some ⟨q, 0, none⟩)
  | 1, v, _ => v = .pointer (some ⟨q, 0, none⟩)
  | 2, v, _ => v = .pointer (some ⟨q, 0, none⟩)
  | 3, v, _ => v = .pointer (some ⟨p, 0, none⟩)
  | 4, v, _ => v = .map (some bm)
  | 5, v, w => w.ownsRow n0 5 1 v W.length (bv W)
  | _, _, _ => True
theorem SAn_stays (q p bm n0 : Nat) (W : List UInt8) : ∀ i v (x y : World), Below x.heap.size x y → SAn q p bm n0 W i v x → SAn q p bm n0 W i v y
  | 0, _, _, _, _, h => h
  | 1, _, _, _, _, h => h
  | 2, _, _, _, _, h => h
  | 3, _, _, _, _, h => h
  | 4, _, _, _, _, h => h
  | 5, _, _, _, hb, h => own_ext h hb
  | _ + 6, _, _, _, _, h => h
/-- a KV's head, that no call of the files touches -/
structure HeadK (j q : Nat) (o : Own) (w : World) (cs : Array Value) : Prop where
  blk : Blk w q 71 cs
  own : o q = some (j, .fs)
theorem HeadK.turn {j k q : Nat} {o o' : Own} {w w' : World} {cs : Array Value} (h : HeadK j q o w cs) (hT : Turn k o o' w w') (hj : j ≠ k) : HeadK j q o' w' cs := ⟨h.blk.same (hT.other hj h.blk.lt h.own).1, (hT.other hj h.blk.lt h.own).2⟩
theorem HeadK.ext {j q : Nat} {o : Own} {w w' : World} {cs : Array Value} (h : HeadK j q o w cs) (hb : Below w.heap.size w w') : HeadK j q o w' cs := ⟨h.blk.ext hb, h.own⟩
def AnewOk (k p : Nat) (M : FSs) (W : List UInt8) (o : Own) (K L : Nat) (w0 w w' : World) : Prop :=
  ∃ M' o', FsIn k p M' o' (K + 10) (L + W.length) w0 w' ∧ Turn k o o' w w' ∧ OpOn M M' ∧ Rest false M' true W ∧ getP M'.now cAnew = none
def AnewNo (k p : Nat) (M : FSs) (there : Bool) (b W : List UInt8) (o : Own) (K L : Nat) (w0 w w' : World) : Prop :=
  ∃ M' o', FsIn k p M' o' (K + 10) (L + W.length) w0 w' ∧ Turn k o o' w w' ∧ M.op ≠ -1 ∧ (Rest true M' there b ∨ Rest true M' true W)
theorem OpOn.trans {A B C : FSs} (h : OpOn A B) (k : OpOn B C) : OpOn A C := fun e => k (h e)
theorem opOn_zero {A B : FSs} (h : OpOn A B) (hb : B.op = 0) : A.op ≠ -1 := fun e => by rw [h e] at hb; cases hb
theorem allB_len {LL : List (List Rec)} (h : ∀ l ∈ LL, WideL l) : (allBB LL).length ≤ LL.length * 2000013 := by
  unfold allBB
  induction LL with
  | nil => simp
  | cons x LL ih =>
    rw [List.flatMap_cons, List.length_append, List.length_cons]
    have := batchB_bdW (h x List.mem_cons_self)
    have := ih fun l hl => h l (List.mem_cons_of_mem _ hl)
    omega
theorem rest_or {M : FSs} {there : Bool} {b : List UInt8} (h : Rest true M there b) (W : List UInt8) : Rest true M there b ∨ Rest true M true W := .inl h
theorem OpOn.refl (A : FSs) : OpOn A A := id
set_option maxRecDepth 100000 in
set_option maxHeartbeats 16000000 in
theorem Anew_any {j k p q bm N : Nat} {M : FSs} {o : Own} {K L : Nat} {w0 w : World} {there : Bool} {b W : List UInt8} {S : PLB} {CS : Array Value} (hx : HeadK j q o w CS) (hcs : CS[0]? = some (.pointer (some ⟨p, 0, none⟩))) (hf : FsIn k p M o K L w0 w) (hm : KvMap o w bm S N) (hS : FitS S) (hWe : wholeB S = W) (hR : Rest false M there b) (hj : j ≠ k) (hK : K ≤ 100000000) (hL : L ≤ 500000000) :
    Calls Try.prog 49 #[.pointer (some ⟨q, 0, none⟩), .map (some bm)] w fun e w' => (e = .returned (.bool true) ∧ AnewOk k p M W o K L w0 w w') ∨ (e = .returned (.bool false) ∧ AnewNo k p M there b W o K L w0 w w') := by
  have hW9 : W.length ≤ 1000000000 - 500000000 := by
    rw [← hWe]
    have := allB_len (chunks_wide hS)
    have := chunks_len hS
    unfold wholeB
    omega
  have HJ := Lib.hid hj
  have HCS := Lib.hid hcs
  have hdisk := hR.disk
  have CRD := Lib.hid (Read_in hf cAnew (by decide) (by omega))
  have CDEL := Lib.hid (fun w' (hb : Below w.heap.size w w') => Del_in (hf.ext hb) cAnew (by decide) (by omega) (by omega))
  have HF := Lib.hid hf
  have HM := Lib.hid hm
  have HX := Lib.hid hx
  have y0 := hx.blk.cellv (i := 0) hcs
  have CWW := Lib.hid (fun (o1 : Own) (w1 : World) (h : KvMap o1 w1 bm S N) => hWe ▸ whole_any h hS)
  clear hm hWe hcs
  by_cases hi : isB M cAnew = true
  · rcases disk_del hdisk hi with ⟨g0, ho0, R⟩ | ⟨g0, on0, hd, hg⟩
    · simp only [g0] at CDEL
      simp only [hi] at CRD
      have HOP := Lib.hid (opOn_zero (OpOn.refl M) ho0)
      have HRE := Lib.hid (rest_or R W)
      clear R ho0 hdisk hi g0 hf hx
      go_enter Try.func49, Try.ntmps49
      go_wp2_with (first
        | (go_at_call 29; (with_reducible refine CRD.out.mono ?_); rintro e wr ⟨vr, rfl, _, hbr, _⟩; have hxr := HX.out.ext hbr; have y0 := hxr.blk.cellv (i := 0) HCS.out)
        | (go_at_call 62; (with_reducible refine (CDEL.out _ hbr).mono ?_); rintro e wd ⟨rfl, od, hfd, Td⟩)
        | fail)
      go_ret
      exact .inr ⟨rfl, _, _, hfd.more (by omega) (by omega), (Turn.below HF.out.own hbr).trans Td, HOP.out, HRE.out⟩
    · simp only [g0] at CDEL
      simp only [hi] at CRD
      clear hdisk hi g0 hf hx
      go_enter Try.func49, Try.ntmps49
      go_upto_region 4 with (first
        | (go_at_call 29; (with_reducible refine CRD.out.mono ?_); rintro e wr ⟨vr, rfl, _, hbr, _⟩; have hxr := HX.out.ext hbr; have y0 := hxr.blk.cellv (i := 0) HCS.out)
        | (go_at_call 62; (with_reducible refine (CDEL.out _ hbr).mono ?_); rintro e w1 ⟨rfl, o1, hf1, Td⟩)
        | fail)
      obtain ⟨M1, hM1⟩ : ∃ x, x = delM M cAnew := ⟨_, rfl⟩
      rw [← hM1] at hf1 on0 hd hg
      have T1 := Lib.hid ((Turn.below HF.out.own hbr).trans Td)
      have HF1 := Lib.hid hf1
      have HX1 := Lib.hid (hxr.turn Td HJ.out)
      have CW := Lib.hid (fun w' (hb : Below w1.heap.size w1 w') => CWW.out o1 w' (((HM.out.ext hbr).turn Td).ext hb))
      clear hM1 hf1 Td hbr hxr y0
      have CA := Lib.hid (fun (A5 : Value) w3 (h : FsIn k p M1 o1 (K + 2) L w0 w3) (hv : Bytes w3 A5 W) (hfr : Free o1 k A5) => App_in h cAnew (by decide) A5 W hv hfr (by omega) (by omega) (by omega))
      have CSY := Lib.hid (fun (o4 : Own) w4 (h : FsIn k p (appM M1 cAnew W) o4 (K + 2 + 2) (L + W.length) w0 w4) => Sync_in h cAnew (by decide) (by omega) (by omega))
      have CR := Lib.hid (fun (o5 : Own) w5 (h : FsIn k p (syncM (appM M1 cAnew W) cAnew) o5 (K + 2 + 2 + 2) (L + W.length) w0 w5) => Ren_in h cAnew cLog (by decide) (by decide) (by omega) (by omega))
      have CD := Lib.hid (fun (o6 : Own) w6 (h : FsIn k p (renM (syncM (appM M1 cAnew W) cAnew) cAnew cLog) o6 (K + 2 + 2 + 2 + 2) (L + W.length) w0 w6) => Dir_in h (by omega) (by omega))
      rcases disk_app hd hg W with ⟨g1, ho1, R⟩ | ⟨g1, on1, i, hD1, hi1, hgi1, hfi1⟩
      · simp only [g1] at CA
        have HOP := Lib.hid (opOn_zero on0 ho1)
        have HRE := Lib.hid (rest_or R W)
        clear R ho1 hd hg CSY CR CD
        refine wp_region_head 6 (by kernel_rfl) (by kernel_rfl) (by kernel_rfl) (fun x y => Below x.heap.size x y) (fun _ => Below.refl _ _) (fun _ _ _ h k => below_step h k) (SAn q p bm w1.heap.size W) (SAn_stays _ _ _ _ _) ?_ ?_
        · simp only [List.take_succ_cons, List.take_zero, EachStep]
          refine ⟨?_, ?_, ?_, ?_, ?_, ?_, trivial⟩
          · intro V w' hb hd
            clear hd
            refine ⟨?_⟩
            simp only [fill]
            go_wp2
            exact ⟨rfl, rfl, Below.refl _ _, rfl⟩
          · intro V w' hb hd
            simp only [DepFacts, SAn, Region.binds, forall_const, and_true] at hd
            refine ⟨?_⟩
            simp only [fill, hd]
            go_wp2
            exact ⟨rfl, rfl, Below.refl _ _, rfl⟩
          · intro V w' hb hd
            simp only [DepFacts, SAn, Region.binds, forall_const, and_true] at hd
            refine ⟨?_⟩
            simp only [fill, hd]
            go_wp2
            exact ⟨rfl, rfl, Below.refl _ _, rfl⟩
          · intro V w' hb hd
            have y0 := ((show HeadK j q o1 w1.drew CS from ⟨HX1.out.blk, HX1.out.own⟩).ext hb).blk.cellv (i := 0) HCS.out
            simp only [DepFacts, SAn, Region.binds, forall_const, and_true] at hd
            refine ⟨?_⟩
            simp only [fill, hd]
            go_wp2
            exact ⟨rfl, rfl, Below.refl _ _, rfl⟩
          · intro V w' hb hd
            clear hd
            refine ⟨?_⟩
            simp only [fill]
            go_wp2
            exact ⟨rfl, rfl, Below.refl _ _, rfl⟩
          · intro V w' hb hd
            simp only [DepFacts, SAn, Region.binds, forall_const, and_true] at hd
            have hbs := hb.size
            have hb1 : Below w1.heap.size w1 w' := ⟨hb.os, hb.tape, hb.output, hb.size, hb.block⟩
            refine ⟨?_⟩
            simp only [fill, hd]
            clear hd
            simp only [Act.put, List.setIfInBounds_toArray, List.set_cons_zero, List.set_cons_succ]
            go_wp2_with (first | (go_at_call 63; (with_reducible refine (CW.out _ hb1).mono ?_); rintro e w3 ⟨v3, rfl, ho3, hb3⟩) | fail)
            exact ⟨rfl, rfl, hb3, own_base ho3 hbs⟩
        · intro V w3 hb3 hs
          have hb13 : Below w1.heap.size w1 w3 := ⟨hb3.os, hb3.tape, hb3.output, hb3.size, hb3.block⟩
          simp only [List.take_succ_cons, List.take_zero, SFacts, SAn] at hs
          obtain ⟨s0, s1, s2, s3, s4, s5, _⟩ := hs
          obtain ⟨A5, c5, e5⟩ := own_sl s5
          rw [e5] at s5
          have hF3 := HF1.out.ext hb13
          have hX3 := HX1.out.ext hb13
          have y0 := hX3.blk.cellv (i := 0) HCS.out
          have hfr : Free o1 k (.slice A5 W.length c5) := (Lone.own HF1.out.own (Nat.le_refl _) s5).free k
          have hv5 := Bytes.own s5
          simp only [List.take_succ_cons, List.take_zero, List.drop_succ_cons, List.drop_zero, fill, s0, s1, s2, s3, s4, e5]
          clear s0 s1 s2 s3 s4 e5 hb3 s5
          go_simp
          go_wp2_with (first
            | (go_at_call 28; (with_reducible refine (CA.out _ _ hF3 hv5 hfr).mono ?_); rintro e w4 ⟨rfl, o4, hF4, T4⟩; have hX4 := hX3.turn T4 HJ.out; have y0 := hX4.blk.cellv (i := 0) HCS.out)
            | fail)
          go_ret
          exact .inr ⟨rfl, _, _, hF4.more (by omega) (by omega), ((T1.out.below2 hb13).trans T4), HOP.out, HRE.out⟩
      · simp only [g1] at CA
        rcases disk_sync hD1 hi1 hgi1 hfi1 with ⟨g2, ho2, R⟩ | ⟨g2, on2, hD2, hi2, hgi2, hfi2⟩
        · simp only [g2] at CSY
          have HOP := Lib.hid (opOn_zero (on0.trans on1) ho2)
          have HRE := Lib.hid (rest_or R W)
          clear R ho2 hd hg CR CD hD1 hi1 hgi1 hfi1
          refine wp_region_head 6 (by kernel_rfl) (by kernel_rfl) (by kernel_rfl) (fun x y => Below x.heap.size x y) (fun _ => Below.refl _ _) (fun _ _ _ h k => below_step h k) (SAn q p bm w1.heap.size W) (SAn_stays _ _ _ _ _) ?_ ?_
          · simp only [List.take_succ_cons, List.take_zero, EachStep]
            refine ⟨?_, ?_, ?_, ?_, ?_, ?_, trivial⟩
            · intro V w' hb hd
              clear hd
              refine ⟨?_⟩
              simp only [fill]
              go_wp2
              exact ⟨rfl, rfl, Below.refl _ _, rfl⟩
            · intro V w' hb hd
              simp only [DepFacts, SAn, Region.binds, forall_const, and_true] at hd
              refine ⟨?_⟩
              simp only [fill, hd]
              go_wp2
              exact ⟨rfl, rfl, Below.refl _ _, rfl⟩
            · intro V w' hb hd
              simp only [DepFacts, SAn, Region.binds, forall_const, and_true] at hd
              refine ⟨?_⟩
              simp only [fill, hd]
              go_wp2
              exact ⟨rfl, rfl, Below.refl _ _, rfl⟩
            · intro V w' hb hd
              have y0 := ((show HeadK j q o1 w1.drew CS from ⟨HX1.out.blk, HX1.out.own⟩).ext hb).blk.cellv (i := 0) HCS.out
              simp only [DepFacts, SAn, Region.binds, forall_const, and_true] at hd
              refine ⟨?_⟩
              simp only [fill, hd]
              go_wp2
              exact ⟨rfl, rfl, Below.refl _ _, rfl⟩
            · intro V w' hb hd
              clear hd
              refine ⟨?_⟩
              simp only [fill]
              go_wp2
              exact ⟨rfl, rfl, Below.refl _ _, rfl⟩
            · intro V w' hb hd
              simp only [DepFacts, SAn, Region.binds, forall_const, and_true] at hd
              have hbs := hb.size
              have hb1 : Below w1.heap.size w1 w' := ⟨hb.os, hb.tape, hb.output, hb.size, hb.block⟩
              refine ⟨?_⟩
              simp only [fill, hd]
              clear hd
              simp only [Act.put, List.setIfInBounds_toArray, List.set_cons_zero, List.set_cons_succ]
              go_wp2_with (first | (go_at_call 63; (with_reducible refine (CW.out _ hb1).mono ?_); rintro e w3 ⟨v3, rfl, ho3, hb3⟩) | fail)
              exact ⟨rfl, rfl, hb3, own_base ho3 hbs⟩
          · intro V w3 hb3 hs
            have hb13 : Below w1.heap.size w1 w3 := ⟨hb3.os, hb3.tape, hb3.output, hb3.size, hb3.block⟩
            simp only [List.take_succ_cons, List.take_zero, SFacts, SAn] at hs
            obtain ⟨s0, s1, s2, s3, s4, s5, _⟩ := hs
            obtain ⟨A5, c5, e5⟩ := own_sl s5
            rw [e5] at s5
            have hF3 := HF1.out.ext hb13
            have hX3 := HX1.out.ext hb13
            have y0 := hX3.blk.cellv (i := 0) HCS.out
            have hfr : Free o1 k (.slice A5 W.length c5) := (Lone.own HF1.out.own (Nat.le_refl _) s5).free k
            have hv5 := Bytes.own s5
            simp only [List.take_succ_cons, List.take_zero, List.drop_succ_cons, List.drop_zero, fill, s0, s1, s2, s3, s4, e5]
            clear s0 s1 s2 s3 s4 e5 hb3 s5
            go_simp
            go_wp2_with (first
              | (go_at_call 28; (with_reducible refine (CA.out _ _ hF3 hv5 hfr).mono ?_); rintro e w4 ⟨rfl, o4, hF4, T4⟩; have hX4 := hX3.turn T4 HJ.out; have y0 := hX4.blk.cellv (i := 0) HCS.out)
              | (go_at_call 48; (with_reducible refine (CSY.out _ _ hF4).mono ?_); rintro e w5 ⟨rfl, o5, hF5, T5⟩; have hX5 := hX4.turn T5 HJ.out; have y0 := hX5.blk.cellv (i := 0) HCS.out)
              | fail)
            go_ret
            exact .inr ⟨rfl, _, _, hF5.more (by omega) (by omega), (((T1.out.below2 hb13).trans T4).trans T5), HOP.out, HRE.out⟩
        · simp only [g2] at CSY
          rcases disk_ren hD2 hi2 hgi2 hfi2 with ⟨g3, ho3, R⟩ | ⟨g3, on3, hB3⟩
          · simp only [g3] at CR
            have HOP := Lib.hid (opOn_zero ((on0.trans on1).trans on2) ho3)
            have HRE := Lib.hid (rest_or R W)
            clear R ho3 hd hg CD hD1 hi1 hgi1 hfi1 hD2 hi2 hgi2 hfi2
            refine wp_region_head 6 (by kernel_rfl) (by kernel_rfl) (by kernel_rfl) (fun x y => Below x.heap.size x y) (fun _ => Below.refl _ _) (fun _ _ _ h k => below_step h k) (SAn q p bm w1.heap.size W) (SAn_stays _ _ _ _ _) ?_ ?_
            · simp only [List.take_succ_cons, List.take_zero, EachStep]
              refine ⟨?_, ?_, ?_, ?_, ?_, ?_, trivial⟩
              · intro V w' hb hd
                clear hd
                refine ⟨?_⟩
                simp only [fill]
                go_wp2
                exact ⟨rfl, rfl, Below.refl _ _, rfl⟩
              · intro V w' hb hd
                simp only [DepFacts, SAn, Region.binds, forall_const, and_true] at hd
                refine ⟨?_⟩
                simp only [fill, hd]
                go_wp2
                exact ⟨rfl, rfl, Below.refl _ _, rfl⟩
              · intro V w' hb hd
                simp only [DepFacts, SAn, Region.binds, forall_const, and_true] at hd
                refine ⟨?_⟩
                simp only [fill, hd]
                go_wp2
                exact ⟨rfl, rfl, Below.refl _ _, rfl⟩
              · intro V w' hb hd
                have y0 := ((show HeadK j q o1 w1.drew CS from ⟨HX1.out.blk, HX1.out.own⟩).ext hb).blk.cellv (i := 0) HCS.out
                simp only [DepFacts, SAn, Region.binds, forall_const, and_true] at hd
                refine ⟨?_⟩
                simp only [fill, hd]
                go_wp2
                exact ⟨rfl, rfl, Below.refl _ _, rfl⟩
              · intro V w' hb hd
                clear hd
                refine ⟨?_⟩
                simp only [fill]
                go_wp2
                exact ⟨rfl, rfl, Below.refl _ _, rfl⟩
              · intro V w' hb hd
                simp only [DepFacts, SAn, Region.binds, forall_const, and_true] at hd
                have hbs := hb.size
                have hb1 : Below w1.heap.size w1 w' := ⟨hb.os, hb.tape, hb.output, hb.size, hb.block⟩
                refine ⟨?_⟩
                simp only [fill, hd]
                clear hd
                simp only [Act.put, List.setIfInBounds_toArray, List.set_cons_zero, List.set_cons_succ]
                go_wp2_with (first | (go_at_call 63; (with_reducible refine (CW.out _ hb1).mono ?_); rintro e w3 ⟨v3, rfl, ho3, hb3⟩) | fail)
                exact ⟨rfl, rfl, hb3, own_base ho3 hbs⟩
            · intro V w3 hb3 hs
              have hb13 : Below w1.heap.size w1 w3 := ⟨hb3.os, hb3.tape, hb3.output, hb3.size, hb3.block⟩
              simp only [List.take_succ_cons, List.take_zero, SFacts, SAn] at hs
              obtain ⟨s0, s1, s2, s3, s4, s5, _⟩ := hs
              obtain ⟨A5, c5, e5⟩ := own_sl s5
              rw [e5] at s5
              have hF3 := HF1.out.ext hb13
              have hX3 := HX1.out.ext hb13
              have y0 := hX3.blk.cellv (i := 0) HCS.out
              have hfr : Free o1 k (.slice A5 W.length c5) := (Lone.own HF1.out.own (Nat.le_refl _) s5).free k
              have hv5 := Bytes.own s5
              simp only [List.take_succ_cons, List.take_zero, List.drop_succ_cons, List.drop_zero, fill, s0, s1, s2, s3, s4, e5]
              clear s0 s1 s2 s3 s4 e5 hb3 s5
              go_simp
              go_wp2_with (first
                | (go_at_call 28; (with_reducible refine (CA.out _ _ hF3 hv5 hfr).mono ?_); rintro e w4 ⟨rfl, o4, hF4, T4⟩; have hX4 := hX3.turn T4 HJ.out; have y0 := hX4.blk.cellv (i := 0) HCS.out)
                | (go_at_call 48; (with_reducible refine (CSY.out _ _ hF4).mono ?_); rintro e w5 ⟨rfl, o5, hF5, T5⟩; have hX5 := hX4.turn T5 HJ.out; have y0 := hX5.blk.cellv (i := 0) HCS.out)
                | (go_at_call 64; (with_reducible refine (CR.out _ _ hF5).mono ?_); rintro e w6 ⟨rfl, o6, hF6, T6⟩; have hX6 := hX5.turn T6 HJ.out; have y0 := hX6.blk.cellv (i := 0) HCS.out)
                | fail)
              go_ret
              exact .inr ⟨rfl, _, _, hF6.more (by omega) (by omega), ((((T1.out.below2 hb13).trans T4).trans T5).trans T6), HOP.out, HRE.out⟩
          · simp only [g3] at CR
            rcases disk_dir hB3 with ⟨g4, ho4, R⟩ | ⟨g4, on4, R, hgone⟩
            · simp only [g4] at CD
              have HOP := Lib.hid (opOn_zero (((on0.trans on1).trans on2).trans on3) ho4)
              have HRE := Lib.hid R
              clear R ho4 hd hg hD1 hi1 hgi1 hfi1 hD2 hi2 hgi2 hfi2 hB3
              refine wp_region_head 6 (by kernel_rfl) (by kernel_rfl) (by kernel_rfl) (fun x y => Below x.heap.size x y) (fun _ => Below.refl _ _) (fun _ _ _ h k => below_step h k) (SAn q p bm w1.heap.size W) (SAn_stays _ _ _ _ _) ?_ ?_
              · simp only [List.take_succ_cons, List.take_zero, EachStep]
                refine ⟨?_, ?_, ?_, ?_, ?_, ?_, trivial⟩
                · intro V w' hb hd
                  clear hd
                  refine ⟨?_⟩
                  simp only [fill]
                  go_wp2
                  exact ⟨rfl, rfl, Below.refl _ _, rfl⟩
                · intro V w' hb hd
                  simp only [DepFacts, SAn, Region.binds, forall_const, and_true] at hd
                  refine ⟨?_⟩
                  simp only [fill, hd]
                  go_wp2
                  exact ⟨rfl, rfl, Below.refl _ _, rfl⟩
                · intro V w' hb hd
                  simp only [DepFacts, SAn, Region.binds, forall_const, and_true] at hd
                  refine ⟨?_⟩
                  simp only [fill, hd]
                  go_wp2
                  exact ⟨rfl, rfl, Below.refl _ _, rfl⟩
                · intro V w' hb hd
                  have y0 := ((show HeadK j q o1 w1.drew CS from ⟨HX1.out.blk, HX1.out.own⟩).ext hb).blk.cellv (i := 0) HCS.out
                  simp only [DepFacts, SAn, Region.binds, forall_const, and_true] at hd
                  refine ⟨?_⟩
                  simp only [fill, hd]
                  go_wp2
                  exact ⟨rfl, rfl, Below.refl _ _, rfl⟩
                · intro V w' hb hd
                  clear hd
                  refine ⟨?_⟩
                  simp only [fill]
                  go_wp2
                  exact ⟨rfl, rfl, Below.refl _ _, rfl⟩
                · intro V w' hb hd
                  simp only [DepFacts, SAn, Region.binds, forall_const, and_true] at hd
                  have hbs := hb.size
                  have hb1 : Below w1.heap.size w1 w' := ⟨hb.os, hb.tape, hb.output, hb.size, hb.block⟩
                  refine ⟨?_⟩
                  simp only [fill, hd]
                  clear hd
                  simp only [Act.put, List.setIfInBounds_toArray, List.set_cons_zero, List.set_cons_succ]
                  go_wp2_with (first | (go_at_call 63; (with_reducible refine (CW.out _ hb1).mono ?_); rintro e w3 ⟨v3, rfl, ho3, hb3⟩) | fail)
                  exact ⟨rfl, rfl, hb3, own_base ho3 hbs⟩
              · intro V w3 hb3 hs
                have hb13 : Below w1.heap.size w1 w3 := ⟨hb3.os, hb3.tape, hb3.output, hb3.size, hb3.block⟩
                simp only [List.take_succ_cons, List.take_zero, SFacts, SAn] at hs
                obtain ⟨s0, s1, s2, s3, s4, s5, _⟩ := hs
                obtain ⟨A5, c5, e5⟩ := own_sl s5
                rw [e5] at s5
                have hF3 := HF1.out.ext hb13
                have hX3 := HX1.out.ext hb13
                have y0 := hX3.blk.cellv (i := 0) HCS.out
                have hfr : Free o1 k (.slice A5 W.length c5) := (Lone.own HF1.out.own (Nat.le_refl _) s5).free k
                have hv5 := Bytes.own s5
                simp only [List.take_succ_cons, List.take_zero, List.drop_succ_cons, List.drop_zero, fill, s0, s1, s2, s3, s4, e5]
                clear s0 s1 s2 s3 s4 e5 hb3 s5
                go_simp
                go_wp2_with (first
                  | (go_at_call 28; (with_reducible refine (CA.out _ _ hF3 hv5 hfr).mono ?_); rintro e w4 ⟨rfl, o4, hF4, T4⟩; have hX4 := hX3.turn T4 HJ.out; have y0 := hX4.blk.cellv (i := 0) HCS.out)
                  | (go_at_call 48; (with_reducible refine (CSY.out _ _ hF4).mono ?_); rintro e w5 ⟨rfl, o5, hF5, T5⟩; have hX5 := hX4.turn T5 HJ.out; have y0 := hX5.blk.cellv (i := 0) HCS.out)
                  | (go_at_call 64; (with_reducible refine (CR.out _ _ hF5).mono ?_); rintro e w6 ⟨rfl, o6, hF6, T6⟩; have hX6 := hX5.turn T6 HJ.out; have y0 := hX6.blk.cellv (i := 0) HCS.out)
                  | (go_at_call 65; (with_reducible refine (CD.out _ _ hF6).mono ?_); rintro e w7 ⟨rfl, o7, hF7, T7⟩; have hX7 := hX6.turn T7 HJ.out; have y0 := hX7.blk.cellv (i := 0) HCS.out)
                  | fail)
                go_ret
                exact .inr ⟨rfl, _, _, hF7.more (by omega) (by omega), (((((T1.out.below2 hb13).trans T4).trans T5).trans T6).trans T7), HOP.out, HRE.out⟩
            · simp only [g4] at CD
              have HON := Lib.hid ((((on0.trans on1).trans on2).trans on3).trans on4)
              have HRE := Lib.hid R
              have HGO := Lib.hid hgone
              clear R hgone hd hg hD1 hi1 hgi1 hfi1 hD2 hi2 hgi2 hfi2 hB3
              refine wp_region_head 6 (by kernel_rfl) (by kernel_rfl) (by kernel_rfl) (fun x y => Below x.heap.size x y) (fun _ => Below.refl _ _) (fun _ _ _ h k => below_step h k) (SAn q p bm w1.heap.size W) (SAn_stays _ _ _ _ _) ?_ ?_
              · simp only [List.take_succ_cons, List.take_zero, EachStep]
                refine ⟨?_, ?_, ?_, ?_, ?_, ?_, trivial⟩
                · intro V w' hb hd
                  clear hd
                  refine ⟨?_⟩
                  simp only [fill]
                  go_wp2
                  exact ⟨rfl, rfl, Below.refl _ _, rfl⟩
                · intro V w' hb hd
                  simp only [DepFacts, SAn, Region.binds, forall_const, and_true] at hd
                  refine ⟨?_⟩
                  simp only [fill, hd]
                  go_wp2
                  exact ⟨rfl, rfl, Below.refl _ _, rfl⟩
                · intro V w' hb hd
                  simp only [DepFacts, SAn, Region.binds, forall_const, and_true] at hd
                  refine ⟨?_⟩
                  simp only [fill, hd]
                  go_wp2
                  exact ⟨rfl, rfl, Below.refl _ _, rfl⟩
                · intro V w' hb hd
                  have y0 := ((show HeadK j q o1 w1.drew CS from ⟨HX1.out.blk, HX1.out.own⟩).ext hb).blk.cellv (i := 0) HCS.out
                  simp only [DepFacts, SAn, Region.binds, forall_const, and_true] at hd
                  refine ⟨?_⟩
                  simp only [fill, hd]
                  go_wp2
                  exact ⟨rfl, rfl, Below.refl _ _, rfl⟩
                · intro V w' hb hd
                  clear hd
                  refine ⟨?_⟩
                  simp only [fill]
                  go_wp2
                  exact ⟨rfl, rfl, Below.refl _ _, rfl⟩
                · intro V w' hb hd
                  simp only [DepFacts, SAn, Region.binds, forall_const, and_true] at hd
                  have hbs := hb.size
                  have hb1 : Below w1.heap.size w1 w' := ⟨hb.os, hb.tape, hb.output, hb.size, hb.block⟩
                  refine ⟨?_⟩
                  simp only [fill, hd]
                  clear hd
                  simp only [Act.put, List.setIfInBounds_toArray, List.set_cons_zero, List.set_cons_succ]
                  go_wp2_with (first | (go_at_call 63; (with_reducible refine (CW.out _ hb1).mono ?_); rintro e w3 ⟨v3, rfl, ho3, hb3⟩) | fail)
                  exact ⟨rfl, rfl, hb3, own_base ho3 hbs⟩
              · intro V w3 hb3 hs
                have hb13 : Below w1.heap.size w1 w3 := ⟨hb3.os, hb3.tape, hb3.output, hb3.size, hb3.block⟩
                simp only [List.take_succ_cons, List.take_zero, SFacts, SAn] at hs
                obtain ⟨s0, s1, s2, s3, s4, s5, _⟩ := hs
                obtain ⟨A5, c5, e5⟩ := own_sl s5
                rw [e5] at s5
                have hF3 := HF1.out.ext hb13
                have hX3 := HX1.out.ext hb13
                have y0 := hX3.blk.cellv (i := 0) HCS.out
                have hfr : Free o1 k (.slice A5 W.length c5) := (Lone.own HF1.out.own (Nat.le_refl _) s5).free k
                have hv5 := Bytes.own s5
                simp only [List.take_succ_cons, List.take_zero, List.drop_succ_cons, List.drop_zero, fill, s0, s1, s2, s3, s4, e5]
                clear s0 s1 s2 s3 s4 e5 hb3 s5
                go_simp
                go_wp2_with (first
                  | (go_at_call 28; (with_reducible refine (CA.out _ _ hF3 hv5 hfr).mono ?_); rintro e w4 ⟨rfl, o4, hF4, T4⟩; have hX4 := hX3.turn T4 HJ.out; have y0 := hX4.blk.cellv (i := 0) HCS.out)
                  | (go_at_call 48; (with_reducible refine (CSY.out _ _ hF4).mono ?_); rintro e w5 ⟨rfl, o5, hF5, T5⟩; have hX5 := hX4.turn T5 HJ.out; have y0 := hX5.blk.cellv (i := 0) HCS.out)
                  | (go_at_call 64; (with_reducible refine (CR.out _ _ hF5).mono ?_); rintro e w6 ⟨rfl, o6, hF6, T6⟩; have hX6 := hX5.turn T6 HJ.out; have y0 := hX6.blk.cellv (i := 0) HCS.out)
                  | (go_at_call 65; (with_reducible refine (CD.out _ _ hF6).mono ?_); rintro e w7 ⟨rfl, o7, hF7, T7⟩; have hX7 := hX6.turn T7 HJ.out; have y0 := hX7.blk.cellv (i := 0) HCS.out)
                  | fail)
                go_ret
                exact .inl ⟨rfl, _, _, hF7.more (by omega) (by omega), (((((T1.out.below2 hb13).trans T4).trans T5).trans T6).trans T7), HON.out, HRE.out, HGO.out⟩
  · have hi' : isB M cAnew = false := by simpa using hi
    have hg : getP M.now cAnew = none := by
      cases h : getP M.now cAnew with
      | none => rfl
      | some i => rw [show isB M cAnew = true by unfold isB; rw [hR.dead, h]; rfl] at hi'; cases hi'
    simp only [hi'] at CRD
    have hd := hdisk
    clear hdisk hi hf hx hi'
    go_enter Try.func49, Try.ntmps49
    go_upto_region 4 with (first
      | (go_at_call 29; (with_reducible refine CRD.out.mono ?_); rintro e w1 ⟨vr, rfl, _, hbr, _⟩; have hxr := HX.out.ext hbr; have y0 := hxr.blk.cellv (i := 0) HCS.out)
      | fail)
    obtain ⟨M1, hM1⟩ : ∃ x, x = M := ⟨_, rfl⟩
    obtain ⟨o1, ho1⟩ : ∃ x, x = o := ⟨_, rfl⟩
    have T1 := Lib.hid (show Turn k o o w w1 from Turn.below HF.out.own hbr)
    have HF1 := Lib.hid ((HF.out.ext hbr).more (show K ≤ K + 2 by omega) (Nat.le_refl L))
    have HX1 := Lib.hid hxr
    have CW := Lib.hid (fun w' (hb : Below w1.heap.size w1 w') => CWW.out o1 w' (by rw [ho1]; exact (HM.out.ext hbr).ext hb))
    have on0 : OpOn M M1 := by rw [hM1]; exact OpOn.refl M
    rw [← hM1] at hd hg
    rw [← hM1, ← ho1] at HF1
    rw [← ho1] at HX1
    have T1 := Lib.hid (show Turn k o o1 w w1 by rw [ho1]; exact T1.out)
    clear hM1 ho1 hbr hxr y0
    have CA := Lib.hid (fun (A5 : Value) w3 (h : FsIn k p M1 o1 (K + 2) L w0 w3) (hv : Bytes w3 A5 W) (hfr : Free o1 k A5) => App_in h cAnew (by decide) A5 W hv hfr (by omega) (by omega) (by omega))
    have CSY := Lib.hid (fun (o4 : Own) w4 (h : FsIn k p (appM M1 cAnew W) o4 (K + 2 + 2) (L + W.length) w0 w4) => Sync_in h cAnew (by decide) (by omega) (by omega))
    have CR := Lib.hid (fun (o5 : Own) w5 (h : FsIn k p (syncM (appM M1 cAnew W) cAnew) o5 (K + 2 + 2 + 2) (L + W.length) w0 w5) => Ren_in h cAnew cLog (by decide) (by decide) (by omega) (by omega))
    have CD := Lib.hid (fun (o6 : Own) w6 (h : FsIn k p (renM (syncM (appM M1 cAnew W) cAnew) cAnew cLog) o6 (K + 2 + 2 + 2 + 2) (L + W.length) w0 w6) => Dir_in h (by omega) (by omega))
    rcases disk_app hd hg W with ⟨g1, ho1, R⟩ | ⟨g1, on1, i, hD1, hi1, hgi1, hfi1⟩
    · simp only [g1] at CA
      have HOP := Lib.hid (opOn_zero on0 ho1)
      have HRE := Lib.hid (rest_or R W)
      clear R ho1 hd hg CSY CR CD
      refine wp_region_head 6 (by kernel_rfl) (by kernel_rfl) (by kernel_rfl) (fun x y => Below x.heap.size x y) (fun _ => Below.refl _ _) (fun _ _ _ h k => below_step h k) (SAn q p bm w1.heap.size W) (SAn_stays _ _ _ _ _) ?_ ?_
      · simp only [List.take_succ_cons, List.take_zero, EachStep]
        refine ⟨?_, ?_, ?_, ?_, ?_, ?_, trivial⟩
        · intro V w' hb hd
          clear hd
          refine ⟨?_⟩
          simp only [fill]
          go_wp2
          exact ⟨rfl, rfl, Below.refl _ _, rfl⟩
        · intro V w' hb hd
          simp only [DepFacts, SAn, Region.binds, forall_const, and_true] at hd
          refine ⟨?_⟩
          simp only [fill, hd]
          go_wp2
          exact ⟨rfl, rfl, Below.refl _ _, rfl⟩
        · intro V w' hb hd
          simp only [DepFacts, SAn, Region.binds, forall_const, and_true] at hd
          refine ⟨?_⟩
          simp only [fill, hd]
          go_wp2
          exact ⟨rfl, rfl, Below.refl _ _, rfl⟩
        · intro V w' hb hd
          have y0 := ((show HeadK j q o1 w1.drew CS from ⟨HX1.out.blk, HX1.out.own⟩).ext hb).blk.cellv (i := 0) HCS.out
          simp only [DepFacts, SAn, Region.binds, forall_const, and_true] at hd
          refine ⟨?_⟩
          simp only [fill, hd]
          go_wp2
          exact ⟨rfl, rfl, Below.refl _ _, rfl⟩
        · intro V w' hb hd
          clear hd
          refine ⟨?_⟩
          simp only [fill]
          go_wp2
          exact ⟨rfl, rfl, Below.refl _ _, rfl⟩
        · intro V w' hb hd
          simp only [DepFacts, SAn, Region.binds, forall_const, and_true] at hd
          have hbs := hb.size
          have hb1 : Below w1.heap.size w1 w' := ⟨hb.os, hb.tape, hb.output, hb.size, hb.block⟩
          refine ⟨?_⟩
          simp only [fill, hd]
          clear hd
          simp only [Act.put, List.setIfInBounds_toArray, List.set_cons_zero, List.set_cons_succ]
          go_wp2_with (first | (go_at_call 63; (with_reducible refine (CW.out _ hb1).mono ?_); rintro e w3 ⟨v3, rfl, ho3, hb3⟩) | fail)
          exact ⟨rfl, rfl, hb3, own_base ho3 hbs⟩
      · intro V w3 hb3 hs
        have hb13 : Below w1.heap.size w1 w3 := ⟨hb3.os, hb3.tape, hb3.output, hb3.size, hb3.block⟩
        simp only [List.take_succ_cons, List.take_zero, SFacts, SAn] at hs
        obtain ⟨s0, s1, s2, s3, s4, s5, _⟩ := hs
        obtain ⟨A5, c5, e5⟩ := own_sl s5
        rw [e5] at s5
        have hF3 := HF1.out.ext hb13
        have hX3 := HX1.out.ext hb13
        have y0 := hX3.blk.cellv (i := 0) HCS.out
        have hfr : Free o1 k (.slice A5 W.length c5) := (Lone.own HF1.out.own (Nat.le_refl _) s5).free k
        have hv5 := Bytes.own s5
        simp only [List.take_succ_cons, List.take_zero, List.drop_succ_cons, List.drop_zero, fill, s0, s1, s2, s3, s4, e5]
        clear s0 s1 s2 s3 s4 e5 hb3 s5
        go_simp
        go_wp2_with (first
          | (go_at_call 28; (with_reducible refine (CA.out _ _ hF3 hv5 hfr).mono ?_); rintro e w4 ⟨rfl, o4, hF4, T4⟩; have hX4 := hX3.turn T4 HJ.out; have y0 := hX4.blk.cellv (i := 0) HCS.out)
          | fail)
        go_ret
        exact .inr ⟨rfl, _, _, hF4.more (by omega) (by omega), ((T1.out.below2 hb13).trans T4), HOP.out, HRE.out⟩
    · simp only [g1] at CA
      rcases disk_sync hD1 hi1 hgi1 hfi1 with ⟨g2, ho2, R⟩ | ⟨g2, on2, hD2, hi2, hgi2, hfi2⟩
      · simp only [g2] at CSY
        have HOP := Lib.hid (opOn_zero (on0.trans on1) ho2)
        have HRE := Lib.hid (rest_or R W)
        clear R ho2 hd hg CR CD hD1 hi1 hgi1 hfi1
        refine wp_region_head 6 (by kernel_rfl) (by kernel_rfl) (by kernel_rfl) (fun x y => Below x.heap.size x y) (fun _ => Below.refl _ _) (fun _ _ _ h k => below_step h k) (SAn q p bm w1.heap.size W) (SAn_stays _ _ _ _ _) ?_ ?_
        · simp only [List.take_succ_cons, List.take_zero, EachStep]
          refine ⟨?_, ?_, ?_, ?_, ?_, ?_, trivial⟩
          · intro V w' hb hd
            clear hd
            refine ⟨?_⟩
            simp only [fill]
            go_wp2
            exact ⟨rfl, rfl, Below.refl _ _, rfl⟩
          · intro V w' hb hd
            simp only [DepFacts, SAn, Region.binds, forall_const, and_true] at hd
            refine ⟨?_⟩
            simp only [fill, hd]
            go_wp2
            exact ⟨rfl, rfl, Below.refl _ _, rfl⟩
          · intro V w' hb hd
            simp only [DepFacts, SAn, Region.binds, forall_const, and_true] at hd
            refine ⟨?_⟩
            simp only [fill, hd]
            go_wp2
            exact ⟨rfl, rfl, Below.refl _ _, rfl⟩
          · intro V w' hb hd
            have y0 := ((show HeadK j q o1 w1.drew CS from ⟨HX1.out.blk, HX1.out.own⟩).ext hb).blk.cellv (i := 0) HCS.out
            simp only [DepFacts, SAn, Region.binds, forall_const, and_true] at hd
            refine ⟨?_⟩
            simp only [fill, hd]
            go_wp2
            exact ⟨rfl, rfl, Below.refl _ _, rfl⟩
          · intro V w' hb hd
            clear hd
            refine ⟨?_⟩
            simp only [fill]
            go_wp2
            exact ⟨rfl, rfl, Below.refl _ _, rfl⟩
          · intro V w' hb hd
            simp only [DepFacts, SAn, Region.binds, forall_const, and_true] at hd
            have hbs := hb.size
            have hb1 : Below w1.heap.size w1 w' := ⟨hb.os, hb.tape, hb.output, hb.size, hb.block⟩
            refine ⟨?_⟩
            simp only [fill, hd]
            clear hd
            simp only [Act.put, List.setIfInBounds_toArray, List.set_cons_zero, List.set_cons_succ]
            go_wp2_with (first | (go_at_call 63; (with_reducible refine (CW.out _ hb1).mono ?_); rintro e w3 ⟨v3, rfl, ho3, hb3⟩) | fail)
            exact ⟨rfl, rfl, hb3, own_base ho3 hbs⟩
        · intro V w3 hb3 hs
          have hb13 : Below w1.heap.size w1 w3 := ⟨hb3.os, hb3.tape, hb3.output, hb3.size, hb3.block⟩
          simp only [List.take_succ_cons, List.take_zero, SFacts, SAn] at hs
          obtain ⟨s0, s1, s2, s3, s4, s5, _⟩ := hs
          obtain ⟨A5, c5, e5⟩ := own_sl s5
          rw [e5] at s5
          have hF3 := HF1.out.ext hb13
          have hX3 := HX1.out.ext hb13
          have y0 := hX3.blk.cellv (i := 0) HCS.out
          have hfr : Free o1 k (.slice A5 W.length c5) := (Lone.own HF1.out.own (Nat.le_refl _) s5).free k
          have hv5 := Bytes.own s5
          simp only [List.take_succ_cons, List.take_zero, List.drop_succ_cons, List.drop_zero, fill, s0, s1, s2, s3, s4, e5]
          clear s0 s1 s2 s3 s4 e5 hb3 s5
          go_simp
          go_wp2_with (first
            | (go_at_call 28; (with_reducible refine (CA.out _ _ hF3 hv5 hfr).mono ?_); rintro e w4 ⟨rfl, o4, hF4, T4⟩; have hX4 := hX3.turn T4 HJ.out; have y0 := hX4.blk.cellv (i := 0) HCS.out)
            | (go_at_call 48; (with_reducible refine (CSY.out _ _ hF4).mono ?_); rintro e w5 ⟨rfl, o5, hF5, T5⟩; have hX5 := hX4.turn T5 HJ.out; have y0 := hX5.blk.cellv (i := 0) HCS.out)
            | fail)
          go_ret
          exact .inr ⟨rfl, _, _, hF5.more (by omega) (by omega), (((T1.out.below2 hb13).trans T4).trans T5), HOP.out, HRE.out⟩
      · simp only [g2] at CSY
        rcases disk_ren hD2 hi2 hgi2 hfi2 with ⟨g3, ho3, R⟩ | ⟨g3, on3, hB3⟩
        · simp only [g3] at CR
          have HOP := Lib.hid (opOn_zero ((on0.trans on1).trans on2) ho3)
          have HRE := Lib.hid (rest_or R W)
          clear R ho3 hd hg CD hD1 hi1 hgi1 hfi1 hD2 hi2 hgi2 hfi2
          refine wp_region_head 6 (by kernel_rfl) (by kernel_rfl) (by kernel_rfl) (fun x y => Below x.heap.size x y) (fun _ => Below.refl _ _) (fun _ _ _ h k => below_step h k) (SAn q p bm w1.heap.size W) (SAn_stays _ _ _ _ _) ?_ ?_
          · simp only [List.take_succ_cons, List.take_zero, EachStep]
            refine ⟨?_, ?_, ?_, ?_, ?_, ?_, trivial⟩
            · intro V w' hb hd
              clear hd
              refine ⟨?_⟩
              simp only [fill]
              go_wp2
              exact ⟨rfl, rfl, Below.refl _ _, rfl⟩
            · intro V w' hb hd
              simp only [DepFacts, SAn, Region.binds, forall_const, and_true] at hd
              refine ⟨?_⟩
              simp only [fill, hd]
              go_wp2
              exact ⟨rfl, rfl, Below.refl _ _, rfl⟩
            · intro V w' hb hd
              simp only [DepFacts, SAn, Region.binds, forall_const, and_true] at hd
              refine ⟨?_⟩
              simp only [fill, hd]
              go_wp2
              exact ⟨rfl, rfl, Below.refl _ _, rfl⟩
            · intro V w' hb hd
              have y0 := ((show HeadK j q o1 w1.drew CS from ⟨HX1.out.blk, HX1.out.own⟩).ext hb).blk.cellv (i := 0) HCS.out
              simp only [DepFacts, SAn, Region.binds, forall_const, and_true] at hd
              refine ⟨?_⟩
              simp only [fill, hd]
              go_wp2
              exact ⟨rfl, rfl, Below.refl _ _, rfl⟩
            · intro V w' hb hd
              clear hd
              refine ⟨?_⟩
              simp only [fill]
              go_wp2
              exact ⟨rfl, rfl, Below.refl _ _, rfl⟩
            · intro V w' hb hd
              simp only [DepFacts, SAn, Region.binds, forall_const, and_true] at hd
              have hbs := hb.size
              have hb1 : Below w1.heap.size w1 w' := ⟨hb.os, hb.tape, hb.output, hb.size, hb.block⟩
              refine ⟨?_⟩
              simp only [fill, hd]
              clear hd
              simp only [Act.put, List.setIfInBounds_toArray, List.set_cons_zero, List.set_cons_succ]
              go_wp2_with (first | (go_at_call 63; (with_reducible refine (CW.out _ hb1).mono ?_); rintro e w3 ⟨v3, rfl, ho3, hb3⟩) | fail)
              exact ⟨rfl, rfl, hb3, own_base ho3 hbs⟩
          · intro V w3 hb3 hs
            have hb13 : Below w1.heap.size w1 w3 := ⟨hb3.os, hb3.tape, hb3.output, hb3.size, hb3.block⟩
            simp only [List.take_succ_cons, List.take_zero, SFacts, SAn] at hs
            obtain ⟨s0, s1, s2, s3, s4, s5, _⟩ := hs
            obtain ⟨A5, c5, e5⟩ := own_sl s5
            rw [e5] at s5
            have hF3 := HF1.out.ext hb13
            have hX3 := HX1.out.ext hb13
            have y0 := hX3.blk.cellv (i := 0) HCS.out
            have hfr : Free o1 k (.slice A5 W.length c5) := (Lone.own HF1.out.own (Nat.le_refl _) s5).free k
            have hv5 := Bytes.own s5
            simp only [List.take_succ_cons, List.take_zero, List.drop_succ_cons, List.drop_zero, fill, s0, s1, s2, s3, s4, e5]
            clear s0 s1 s2 s3 s4 e5 hb3 s5
            go_simp
            go_wp2_with (first
              | (go_at_call 28; (with_reducible refine (CA.out _ _ hF3 hv5 hfr).mono ?_); rintro e w4 ⟨rfl, o4, hF4, T4⟩; have hX4 := hX3.turn T4 HJ.out; have y0 := hX4.blk.cellv (i := 0) HCS.out)
              | (go_at_call 48; (with_reducible refine (CSY.out _ _ hF4).mono ?_); rintro e w5 ⟨rfl, o5, hF5, T5⟩; have hX5 := hX4.turn T5 HJ.out; have y0 := hX5.blk.cellv (i := 0) HCS.out)
              | (go_at_call 64; (with_reducible refine (CR.out _ _ hF5).mono ?_); rintro e w6 ⟨rfl, o6, hF6, T6⟩; have hX6 := hX5.turn T6 HJ.out; have y0 := hX6.blk.cellv (i := 0) HCS.out)
              | fail)
            go_ret
            exact .inr ⟨rfl, _, _, hF6.more (by omega) (by omega), ((((T1.out.below2 hb13).trans T4).trans T5).trans T6), HOP.out, HRE.out⟩
        · simp only [g3] at CR
          rcases disk_dir hB3 with ⟨g4, ho4, R⟩ | ⟨g4, on4, R, hgone⟩
          · simp only [g4] at CD
            have HOP := Lib.hid (opOn_zero (((on0.trans on1).trans on2).trans on3) ho4)
            have HRE := Lib.hid R
            clear R ho4 hd hg hD1 hi1 hgi1 hfi1 hD2 hi2 hgi2 hfi2 hB3
            refine wp_region_head 6 (by kernel_rfl) (by kernel_rfl) (by kernel_rfl) (fun x y => Below x.heap.size x y) (fun _ => Below.refl _ _) (fun _ _ _ h k => below_step h k) (SAn q p bm w1.heap.size W) (SAn_stays _ _ _ _ _) ?_ ?_
            · simp only [List.take_succ_cons, List.take_zero, EachStep]
              refine ⟨?_, ?_, ?_, ?_, ?_, ?_, trivial⟩
              · intro V w' hb hd
                clear hd
                refine ⟨?_⟩
                simp only [fill]
                go_wp2
                exact ⟨rfl, rfl, Below.refl _ _, rfl⟩
              · intro V w' hb hd
                simp only [DepFacts, SAn, Region.binds, forall_const, and_true] at hd
                refine ⟨?_⟩
                simp only [fill, hd]
                go_wp2
                exact ⟨rfl, rfl, Below.refl _ _, rfl⟩
              · intro V w' hb hd
                simp only [DepFacts, SAn, Region.binds, forall_const, and_true] at hd
                refine ⟨?_⟩
                simp only [fill, hd]
                go_wp2
                exact ⟨rfl, rfl, Below.refl _ _, rfl⟩
              · intro V w' hb hd
                have y0 := ((show HeadK j q o1 w1.drew CS from ⟨HX1.out.blk, HX1.out.own⟩).ext hb).blk.cellv (i := 0) HCS.out
                simp only [DepFacts, SAn, Region.binds, forall_const, and_true] at hd
                refine ⟨?_⟩
                simp only [fill, hd]
                go_wp2
                exact ⟨rfl, rfl, Below.refl _ _, rfl⟩
              · intro V w' hb hd
                clear hd
                refine ⟨?_⟩
                simp only [fill]
                go_wp2
                exact ⟨rfl, rfl, Below.refl _ _, rfl⟩
              · intro V w' hb hd
                simp only [DepFacts, SAn, Region.binds, forall_const, and_true] at hd
                have hbs := hb.size
                have hb1 : Below w1.heap.size w1 w' := ⟨hb.os, hb.tape, hb.output, hb.size, hb.block⟩
                refine ⟨?_⟩
                simp only [fill, hd]
                clear hd
                simp only [Act.put, List.setIfInBounds_toArray, List.set_cons_zero, List.set_cons_succ]
                go_wp2_with (first | (go_at_call 63; (with_reducible refine (CW.out _ hb1).mono ?_); rintro e w3 ⟨v3, rfl, ho3, hb3⟩) | fail)
                exact ⟨rfl, rfl, hb3, own_base ho3 hbs⟩
            · intro V w3 hb3 hs
              have hb13 : Below w1.heap.size w1 w3 := ⟨hb3.os, hb3.tape, hb3.output, hb3.size, hb3.block⟩
              simp only [List.take_succ_cons, List.take_zero, SFacts, SAn] at hs
              obtain ⟨s0, s1, s2, s3, s4, s5, _⟩ := hs
              obtain ⟨A5, c5, e5⟩ := own_sl s5
              rw [e5] at s5
              have hF3 := HF1.out.ext hb13
              have hX3 := HX1.out.ext hb13
              have y0 := hX3.blk.cellv (i := 0) HCS.out
              have hfr : Free o1 k (.slice A5 W.length c5) := (Lone.own HF1.out.own (Nat.le_refl _) s5).free k
              have hv5 := Bytes.own s5
              simp only [List.take_succ_cons, List.take_zero, List.drop_succ_cons, List.drop_zero, fill, s0, s1, s2, s3, s4, e5]
              clear s0 s1 s2 s3 s4 e5 hb3 s5
              go_simp
              go_wp2_with (first
                | (go_at_call 28; (with_reducible refine (CA.out _ _ hF3 hv5 hfr).mono ?_); rintro e w4 ⟨rfl, o4, hF4, T4⟩; have hX4 := hX3.turn T4 HJ.out; have y0 := hX4.blk.cellv (i := 0) HCS.out)
                | (go_at_call 48; (with_reducible refine (CSY.out _ _ hF4).mono ?_); rintro e w5 ⟨rfl, o5, hF5, T5⟩; have hX5 := hX4.turn T5 HJ.out; have y0 := hX5.blk.cellv (i := 0) HCS.out)
                | (go_at_call 64; (with_reducible refine (CR.out _ _ hF5).mono ?_); rintro e w6 ⟨rfl, o6, hF6, T6⟩; have hX6 := hX5.turn T6 HJ.out; have y0 := hX6.blk.cellv (i := 0) HCS.out)
                | (go_at_call 65; (with_reducible refine (CD.out _ _ hF6).mono ?_); rintro e w7 ⟨rfl, o7, hF7, T7⟩; have hX7 := hX6.turn T7 HJ.out; have y0 := hX7.blk.cellv (i := 0) HCS.out)
                | fail)
              go_ret
              exact .inr ⟨rfl, _, _, hF7.more (by omega) (by omega), (((((T1.out.below2 hb13).trans T4).trans T5).trans T6).trans T7), HOP.out, HRE.out⟩
          · simp only [g4] at CD
            have HON := Lib.hid ((((on0.trans on1).trans on2).trans on3).trans on4)
            have HRE := Lib.hid R
            have HGO := Lib.hid hgone
            clear R hgone hd hg hD1 hi1 hgi1 hfi1 hD2 hi2 hgi2 hfi2 hB3
            refine wp_region_head 6 (by kernel_rfl) (by kernel_rfl) (by kernel_rfl) (fun x y => Below x.heap.size x y) (fun _ => Below.refl _ _) (fun _ _ _ h k => below_step h k) (SAn q p bm w1.heap.size W) (SAn_stays _ _ _ _ _) ?_ ?_
            · simp only [List.take_succ_cons, List.take_zero, EachStep]
              refine ⟨?_, ?_, ?_, ?_, ?_, ?_, trivial⟩
              · intro V w' hb hd
                clear hd
                refine ⟨?_⟩
                simp only [fill]
                go_wp2
                exact ⟨rfl, rfl, Below.refl _ _, rfl⟩
              · intro V w' hb hd
                simp only [DepFacts, SAn, Region.binds, forall_const, and_true] at hd
                refine ⟨?_⟩
                simp only [fill, hd]
                go_wp2
                exact ⟨rfl, rfl, Below.refl _ _, rfl⟩
              · intro V w' hb hd
                simp only [DepFacts, SAn, Region.binds, forall_const, and_true] at hd
                refine ⟨?_⟩
                simp only [fill, hd]
                go_wp2
                exact ⟨rfl, rfl, Below.refl _ _, rfl⟩
              · intro V w' hb hd
                have y0 := ((show HeadK j q o1 w1.drew CS from ⟨HX1.out.blk, HX1.out.own⟩).ext hb).blk.cellv (i := 0) HCS.out
                simp only [DepFacts, SAn, Region.binds, forall_const, and_true] at hd
                refine ⟨?_⟩
                simp only [fill, hd]
                go_wp2
                exact ⟨rfl, rfl, Below.refl _ _, rfl⟩
              · intro V w' hb hd
                clear hd
                refine ⟨?_⟩
                simp only [fill]
                go_wp2
                exact ⟨rfl, rfl, Below.refl _ _, rfl⟩
              · intro V w' hb hd
                simp only [DepFacts, SAn, Region.binds, forall_const, and_true] at hd
                have hbs := hb.size
                have hb1 : Below w1.heap.size w1 w' := ⟨hb.os, hb.tape, hb.output, hb.size, hb.block⟩
                refine ⟨?_⟩
                simp only [fill, hd]
                clear hd
                simp only [Act.put, List.setIfInBounds_toArray, List.set_cons_zero, List.set_cons_succ]
                go_wp2_with (first | (go_at_call 63; (with_reducible refine (CW.out _ hb1).mono ?_); rintro e w3 ⟨v3, rfl, ho3, hb3⟩) | fail)
                exact ⟨rfl, rfl, hb3, own_base ho3 hbs⟩
            · intro V w3 hb3 hs
              have hb13 : Below w1.heap.size w1 w3 := ⟨hb3.os, hb3.tape, hb3.output, hb3.size, hb3.block⟩
              simp only [List.take_succ_cons, List.take_zero, SFacts, SAn] at hs
              obtain ⟨s0, s1, s2, s3, s4, s5, _⟩ := hs
              obtain ⟨A5, c5, e5⟩ := own_sl s5
              rw [e5] at s5
              have hF3 := HF1.out.ext hb13
              have hX3 := HX1.out.ext hb13
              have y0 := hX3.blk.cellv (i := 0) HCS.out
              have hfr : Free o1 k (.slice A5 W.length c5) := (Lone.own HF1.out.own (Nat.le_refl _) s5).free k
              have hv5 := Bytes.own s5
              simp only [List.take_succ_cons, List.take_zero, List.drop_succ_cons, List.drop_zero, fill, s0, s1, s2, s3, s4, e5]
              clear s0 s1 s2 s3 s4 e5 hb3 s5
              go_simp
              go_wp2_with (first
                | (go_at_call 28; (with_reducible refine (CA.out _ _ hF3 hv5 hfr).mono ?_); rintro e w4 ⟨rfl, o4, hF4, T4⟩; have hX4 := hX3.turn T4 HJ.out; have y0 := hX4.blk.cellv (i := 0) HCS.out)
                | (go_at_call 48; (with_reducible refine (CSY.out _ _ hF4).mono ?_); rintro e w5 ⟨rfl, o5, hF5, T5⟩; have hX5 := hX4.turn T5 HJ.out; have y0 := hX5.blk.cellv (i := 0) HCS.out)
                | (go_at_call 64; (with_reducible refine (CR.out _ _ hF5).mono ?_); rintro e w6 ⟨rfl, o6, hF6, T6⟩; have hX6 := hX5.turn T6 HJ.out; have y0 := hX6.blk.cellv (i := 0) HCS.out)
                | (go_at_call 65; (with_reducible refine (CD.out _ _ hF6).mono ?_); rintro e w7 ⟨rfl, o7, hF7, T7⟩; have hX7 := hX6.turn T7 HJ.out; have y0 := hX7.blk.cellv (i := 0) HCS.out)
                | fail)
              go_ret
              exact .inl ⟨rfl, _, _, hF7.more (by omega) (by omega), (((((T1.out.below2 hb13).trans T4).trans T5).trans T6).trans T7), HON.out, HRE.out, HGO.out⟩
end Go.Mun
