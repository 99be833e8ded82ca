/- What the KV laws use of the parts that are shared, in one text (eseat.py). -/
import Derived.Test.YthjnebngdcdicaaKb2
import Derived.Test.YthjnebngdcdicaaProg
import Derived.Laws.BitsAllLaws
import Derived.Deep.QuietTactic
import Derived.BigQuiet
import Derived.Outline
-- FsAppend
namespace Go.Mun
open Go Go.RowKit Go.Proofs Go.Maps

section
variable {k p : Nat} {M : FSs} {φ : Nat → Nat} {o : Own} {K L : Nat} {w : World}
set_option maxRecDepth 100000 in
set_option maxHeartbeats 2000000 in
theorem Append_any (h : RelP k p M φ o K L w) (n : Ky) (hn : n.length ≤ 1000000) (va : Value) (l : List UInt8) (hv : Bytes w va l) (hvf : Free o k va) (hl : l.length ≤ 1000000000) (hK : K < 1000000000) (hL : L ≤ 1000000000) :
    Calls Try.prog 28 #[.pointer (some ⟨p, 0, none⟩), .string ⟨n.toArray⟩, va] w fun e w' => e = .returned (.bool (goesB M (appOk M n))) ∧ ∃ o' φ', RelP k p (appM M n l) φ' o' (K + 2) (L + l.length) w' ∧ Turn k o o' w w' := by
  have CN := Lib.hid (fun w => named_any n w hn)
  have HR := Lib.hid h
  have CF := Lib.hid (fails_any h (by omega) hL)
  have HBY := Lib.hid (fun (o' : Own) (w' : World) (T : Turn k o o' w w') => hv.turn T hvf)
  obtain ⟨Av, nv, cv, rfl⟩ : ∃ A n c, va = .slice A n c := by obtain ⟨A, n, c, e, _⟩ := hv; exact ⟨A, n, c, e⟩
  obtain ⟨bn, bs, vw, vk, hh⟩ := h.head
  obtain ⟨N, hN, hNK⟩ := hh.now
  have y0 := hh.blk.cellv (i := 0) rfl
  have y6 := hh.blk.cellv (i := 6) rfl
  have esz : Maps.size (encM (idT φ M.now)) = M.now.length := by rw [enc_size]; unfold idT mapP; rw [List.length_map]
  have ql := World.ownsMap.len hN namesTy 3
  rw [esz] at ql
  have hm : n.length ≤ maxLen := by unfold maxLen; omega
  cases hg : getP M.now n with
  | some i =>
    have q := hN.look namesTy (zFileP w) hm (idT_get hg)
    have HG := Lib.hid hg
    cases hd : M.dead
    · rw [hd] at y6
      cases hnm : namedB n
      · rw [hnm] at CN
        unfold appM
        rw [thenM_no (appOk_name hnm), show goesB M (appOk M n) = false by rw [appOk_name hnm]; rfl]
        clear hh hN hg hd hnm h hv hvf
        go_enter Try.func28, Try.ntmps28
        go_wp2_with (first
          | (go_at_call 41; (with_reducible refine (CN.out _).mono ?_); rintro e wn ⟨rfl, rfl⟩)
          | fail)
        go_ret
        exact ⟨rfl, o, φ, HR.out.more (by omega) (by omega), Turn.refl HR.out.own⟩
      · rw [hnm] at CN
        have HO := Lib.hid (appOk_old hd hnm hg)
        cases hf : failsB M
        · rw [hf] at CF
          have HF := Lib.hid hf
          clear hh hN hg hd hnm h hv hvf hf
          go_enter Try.func28, Try.ntmps28
          go_upto_region 7 with (first
            | (go_at_call 41; (with_reducible refine (CN.out _).mono ?_); rintro e wn ⟨rfl, rfl⟩)
            | (go_at_call 42; (with_reducible refine CF.out.mono ?_); rintro e w1 ⟨rfl, o1, h1, T1⟩)
            | fail)
          have hX := h1
          have TX := T1
          have hlX : Live (failsM M) i := Live.of_now (n := n) (by rw [goes_now HF.out]; exact HG.out)
          clear h1 T1
          obtain ⟨A, c, s0, l0, hs0, hl0, f1, f2, f3, f4, f5, hbl⟩ := RelP.at_file hX hlX
          have RX := Lib.hid hX
          have TX' := Lib.hid TX
          have HLX := Lib.hid hlX
          have z0 := f1.cellv (i := 0) rfl
          have hB := HBY.out _ _ TX
          have F2 := Lib.hid f2
          have F4 := Lib.hid f4
          have HL0 := Lib.hid hl0
          have HS0 := Lib.hid hs0
          clear hX TX hlX hl0 hs0 f2 f4
          have hbT := bytesTyC
          go_wp2_with (first
            | (at_builtin; refine wpList_append_bytes rfl (.tmp 53) (.tmp 54) _ rfl 0 hbT (v := .slice A l0.length c) rfl f3 rfl hB (by omega) (Nat.zero_le _) ?_; intro v3 w3 ho3 hg3 hat3; have hx3 := f1.grown hg3 (by intro e; have := F4.out _ e.symm; rw [F2.out] at this; cases this))
            | ((with_reducible refine gd_store ?_); refine wpList_store_cell rfl 22 (.tmp 57) (.tmp 55) rfl (i := 0) (v := v3) hx3 (show 0 < 2 by decide) (by kernel_rfl) (own_one ho3) rfl rfl ?_; intro w4 hx4 hg4)
            | fail)
          go_ret
          have ho := RX.out.own
          have s3 := hg3.size
          have s4 := hg4.size
          have TT : Turn k o1 o1 w1 w4 := (Turn.row ho hg3 F4.out).trans (Turn.wrote (ho.more s3) hg4 F2.out)
          have hf2 := ho.lt F2.out
          have st : ∀ {b : Nat} {t : Tag}, o1 b = some (k, t) → t ≠ .file i → t ≠ .byt i → w4.heap[b]? = w1.heap[b]? := fun {b t} e n1 n2 => by
            have hb := ho.lt e
            rw [same_of hg4 (by omega) e (one_some F2.out) n1, same_of hg3 hb e F4.out n2]
          have hv3 : w4.ownsRow 0 5 1 v3 (l0.length + l.length) (bv (l0 ++ l)) := own_same ho3 fun g hg => hg4.block g (ho3.lt g hg).2 fun e => by
            injection e with e
            subst e
            rcases hat3 with h3 | h3
            · have := F4.out _ (h3 ▸ hg)
              rw [F2.out] at this
              cases this
            · rw [h3] at hg
              injection hg with hg
              omega
          obtain ⟨o', q1, q2, q3, q4⟩ : ∃ o' : Own, (∀ b, b < w1.heap.size → o' b = o1 b) ∧ OwnIn o' w4 ∧ (∀ g, v3.ownBlock = some g → o' g = some (k, .byt i)) ∧ Turn k o1 o' w1 w4 := by
            rcases hat3 with h3 | h3
            · exact ⟨o1, fun _ _ => rfl, ho.more TT.size, fun g hg => F4.out g (h3 ▸ hg), TT⟩
            · have hlt : w1.heap.size < w3.heap.size := (ho3.lt _ h3).2
              refine ⟨give o1 w1.heap.size (k, .byt i), fun b hb => give_ne (by omega), (ho.more TT.size).give (by omega) _, fun g hg => ?_, TT.give (Nat.le_refl _) _⟩
              rw [h3] at hg
              injection hg with hg
              subst hg
              exact give_same _ _ _
          have ex : ∀ {b : Nat} {x : Nat × Tag}, o1 b = some x → o' b = some x := fun e => by rw [q1 _ (ho.lt e)]; exact e
          have hfin : RelP k p (app0 i l (failsM M)) φ o' (K + 2) (L + l.length) w4 := by
            refine RelP.file_set (RX.out.more (by omega) (Nat.le_refl _)) st ex q2 ⟨v3, ?_, ex F2.out, ?_, q3⟩ ?_ (by omega) ?_
            · show Blk w4 (φ i) _ #[v3, .int .i64 (((failsM M).fs i).s : Nat)]
              rw [HS0.out]
              exact hx4
            · show w4.ownsRow 0 _ 1 v3 (((failsM M).fs i).b ++ l).length (bv (((failsM M).fs i).b ++ l))
              rw [HL0.out, List.length_append]
              exact hv3
            · show (((failsM M).fs i).b ++ l).length ≤ L + l.length
              rw [List.length_append, HL0.out]
              omega
            · show ((failsM M).fs i).s ≤ (((failsM M).fs i).b ++ l).length
              rw [List.length_append, HL0.out, HS0.out]
              omega
          refine ⟨by unfold goesB; rw [HF.out, HO.out]; rfl, o', φ, ?_, TX'.out.trans q4⟩
          unfold appM
          rw [thenM_go HO.out HF.out, app1, goes_now HF.out, HG.out]
          exact hfin
        · rw [hf] at CF
          have HF := Lib.hid hf
          clear hh hN hg hd hnm h hv hvf hf
          go_enter Try.func28, Try.ntmps28
          go_wp2_with (first
            | (go_at_call 41; (with_reducible refine (CN.out _).mono ?_); rintro e wn ⟨rfl, rfl⟩)
            | (go_at_call 42; (with_reducible refine CF.out.mono ?_); rintro e w1 ⟨rfl, o1, h1, T1⟩)
            | fail)
          go_ret
          unfold appM
          rw [thenM_off HO.out HF.out]
          exact ⟨by unfold goesB; rw [HF.out, HO.out]; rfl, o1, φ, h1.more (by omega) (by omega), T1⟩
    · rw [hd] at y6
      unfold appM
      rw [thenM_no (appOk_dead hd), show goesB M (appOk M n) = false by rw [appOk_dead hd]; rfl]
      clear hh hN hg hd h hv hvf
      go_enter Try.func28, Try.ntmps28
      go_wp2_with (first
        | (go_at_call 41; (with_reducible refine (CN.out _).mono ?_); rintro e wn ⟨rfl, rfl⟩)
        | fail)
      go_ret
      exact ⟨rfl, o, φ, HR.out.more (by omega) (by omega), Turn.refl HR.out.own⟩
  | none =>
    have q := hN.look_none namesTy (zFileP w) hm (idT_none hg)
    have HG := Lib.hid hg
    cases hd : M.dead
    · rw [hd] at y6
      cases hnm : namedB n
      · rw [hnm] at CN
        unfold appM
        rw [thenM_no (appOk_name hnm), show goesB M (appOk M n) = false by rw [appOk_name hnm]; rfl]
        clear hh hN hg hd hnm h hv hvf
        go_enter Try.func28, Try.ntmps28
        go_wp2_with (first
          | (go_at_call 41; (with_reducible refine (CN.out _).mono ?_); rintro e wn ⟨rfl, rfl⟩)
          | fail)
        go_ret
        exact ⟨rfl, o, φ, HR.out.more (by omega) (by omega), Turn.refl HR.out.own⟩
      · rw [hnm] at CN
        by_cases hsz : M.now.length < 200
        · have HO := Lib.hid (appOk_new hd hnm hg hsz)
          have HNM := Lib.hid (namedB_ok hnm)
          have f1 : decide ((200 : Int) ≤ (M.now.length : Int)) = false := decide_eq_false (by omega)
          cases hf : failsB M
          · rw [hf] at CF
            have HF := Lib.hid hf
            clear hh hg hd hnm h hv hvf hf
            go_enter Try.func28, Try.ntmps28
            go_upto_region 6 with (first
              | (go_at_call 41; (with_reducible refine (CN.out _).mono ?_); rintro e wn ⟨rfl, rfl⟩)
              | (go_at_call 42; (with_reducible refine CF.out.mono ?_); rintro e w1 ⟨rfl, o1, h1, T1⟩)
              | ((with_reducible refine gd_box ?_); refine wpList_box_agg rfl _ (.tmp 41) rfl rfl ?_; intro w3 hx3 hb3 hl3)
              | fail)
            obtain ⟨φ', p1, p2⟩ : ∃ φ' : Nat → Nat, φ' (failsM M).next = w1.heap.size ∧ ∀ j, j ≠ (failsM M).next → φ' j = φ j := ⟨fun j => if j = (failsM M).next then w1.heap.size else φ j, if_pos rfl, fun j hj => if_neg hj⟩
            obtain ⟨h2, hfa⟩ := RelP.newF h1 hb3 hx3 p1 p2
            have T3 := (Turn.below (k := k) h1.own hb3).give (Nat.le_refl _) (.file (failsM M).next)
            have P1 := Lib.hid p1
            have e0 : (newF (failsM M)).fs (failsM M).next = ⟨[], 0⟩ := if_pos rfl
            have F2n : ∀ n' i, Chg.made n (failsM M).next = .made n' i → i < (newF (failsM M)).next ∧ FileAt k φ' (give o1 w1.heap.size (k, .file (failsM M).next)) w3 i ((newF (failsM M)).fs i) ∧ ((newF (failsM M)).fs i).b.length ≤ L := fun n' i e => by
              injection e with e1 e2
              subst e2
              rw [e0]
              exact ⟨Nat.lt_succ_self _, hfa, Nat.zero_le _⟩
            have CW2 := wait_any h2 (.made n (failsM M).next) (show NameOk n ∧ ∀ p ∈ (failsM M).now, p.2 ≠ (failsM M).next from ⟨HNM.out, fun p hp => by have := h1.fine.fresh p hp; omega⟩) F2n (by omega)
            simp only [chgV, P1.out] at CW2
            have CW := Lib.hid CW2
            clear h2 hfa F2n CW2 hx3
            have hbT := bytesTyC
            obtain ⟨MZ, hMZ⟩ : ∃ x, x = waitM (newF (failsM M)) (.made n (failsM M).next) := ⟨_, rfl⟩
            rw [← hMZ] at CW
            have HLX := Lib.hid (show Live MZ (failsM M).next by rw [hMZ]; exact .inr (.inr ⟨n, List.mem_append.2 (.inr (List.mem_singleton.2 rfl))⟩))
            have HMZ := Lib.hid hMZ
            have T13 := Lib.hid (T1.trans T3)
            clear h1 T1 T3 p1 p2 hMZ e0
            go_wp2_with (first
              | (go_at_call 43; (with_reducible refine CW.out.mono ?_); rintro e w5 ⟨rfl, o3, h3, T5⟩; obtain ⟨A, c, s0, l0, hs0, hl0, f1, f2, f3, f4, f5, hbl⟩ := RelP.at_file h3 HLX.out; rw [P1.out] at f1; have RX := Lib.hid h3; have TX' := Lib.hid (T13.out.trans T5); have z0 := f1.cellv (i := 0) rfl; have hB := HBY.out _ _ TX'.out; have F2 := Lib.hid f2; have F4 := Lib.hid f4; have HL0 := Lib.hid hl0; have HS0 := Lib.hid hs0; clear h3 T5 hl0 hs0 f2 f4)
              | (at_builtin; refine wpList_append_bytes rfl (.tmp 53) (.tmp 54) _ rfl 0 hbT (v := .slice A l0.length c) rfl f3 rfl hB (by omega) (Nat.zero_le _) ?_; intro v3 w3 ho3 hg3 hat3; have hx3 := f1.grown hg3 (by intro e; have := F4.out _ e.symm; have f2 := F2.out; rw [P1.out] at f2; rw [f2] at this; cases this))
              | ((with_reducible refine gd_store ?_); refine wpList_store_cell rfl 22 (.tmp 57) (.tmp 55) rfl (i := 0) (v := v3) hx3 (show 0 < 2 by decide) (by kernel_rfl) (own_one ho3) rfl rfl ?_; intro w4 hx4 hg4)
              | fail)
            go_ret
            have ho := RX.out.own
            rw [← P1.out] at hx4 hg4
            have s3 := hg3.size
            have s4 := hg4.size
            have TT : Turn k o3 o3 w5 w4 := (Turn.row ho hg3 F4.out).trans (Turn.wrote (ho.more s3) hg4 F2.out)
            have hf2 := ho.lt F2.out
            have st : ∀ {b : Nat} {t : Tag}, o3 b = some (k, t) → t ≠ .file (failsM M).next → t ≠ .byt (failsM M).next → w4.heap[b]? = w5.heap[b]? := fun {b t} e n1 n2 => by
              have hb := ho.lt e
              rw [same_of hg4 (by omega) e (one_some F2.out) n1, same_of hg3 hb e F4.out n2]
            have hv3 : w4.ownsRow 0 5 1 v3 (l0.length + l.length) (bv (l0 ++ l)) := own_same ho3 fun g hg => hg4.block g (ho3.lt g hg).2 fun e => by
              injection e with e
              subst e
              rcases hat3 with h3 | h3
              · have := F4.out _ (h3 ▸ hg)
                rw [F2.out] at this
                cases this
              · rw [h3] at hg
                injection hg with hg
                omega
            obtain ⟨o', q1, q2, q3, q4⟩ : ∃ o' : Own, (∀ b, b < w5.heap.size → o' b = o3 b) ∧ OwnIn o' w4 ∧ (∀ g, v3.ownBlock = some g → o' g = some (k, .byt (failsM M).next)) ∧ Turn k o3 o' w5 w4 := by
              rcases hat3 with h3 | h3
              · exact ⟨o3, fun _ _ => rfl, ho.more TT.size, fun g hg => F4.out g (h3 ▸ hg), TT⟩
              · have hlt : w5.heap.size < w3.heap.size := (ho3.lt _ h3).2
                refine ⟨give o3 w5.heap.size (k, .byt (failsM M).next), fun b hb => give_ne (by omega), (ho.more TT.size).give (by omega) _, fun g hg => ?_, TT.give (Nat.le_refl _) _⟩
                rw [h3] at hg
                injection hg with hg
                subst hg
                exact give_same _ _ _
            have ex : ∀ {b : Nat} {x : Nat × Tag}, o3 b = some x → o' b = some x := fun e => by rw [q1 _ (ho.lt e)]; exact e
            have hfin : RelP k p (app0 (failsM M).next l MZ) φ' o' (K + 2) (L + l.length) w4 := by
              refine RelP.file_set (RX.out.more (by omega) (Nat.le_refl _)) st ex q2 ⟨v3, ?_, ex F2.out, ?_, q3⟩ ?_ (by omega) ?_
              · show Blk w4 (φ' (failsM M).next) _ #[v3, .int .i64 ((MZ.fs (failsM M).next).s : Nat)]
                rw [HS0.out]
                exact hx4
              · show w4.ownsRow 0 _ 1 v3 ((MZ.fs (failsM M).next).b ++ l).length (bv ((MZ.fs (failsM M).next).b ++ l))
                rw [HL0.out, List.length_append]
                exact hv3
              · show ((MZ.fs (failsM M).next).b ++ l).length ≤ L + l.length
                rw [List.length_append, HL0.out]
                omega
              · show (MZ.fs (failsM M).next).s ≤ ((MZ.fs (failsM M).next).b ++ l).length
                rw [List.length_append, HL0.out, HS0.out]
                omega
            refine ⟨by unfold goesB; rw [HF.out, HO.out]; rfl, o', φ', ?_, TX'.out.trans q4⟩
            unfold appM
            rw [thenM_go HO.out HF.out, app1, goes_now HF.out, HG.out]
            have := HMZ.out
            subst this
            exact hfin
          · rw [hf] at CF
            have HF := Lib.hid hf
            clear hh hg hd hnm h hv hvf hf
            go_enter Try.func28, Try.ntmps28
            go_wp2_with (first
              | (go_at_call 41; (with_reducible refine (CN.out _).mono ?_); rintro e wn ⟨rfl, rfl⟩)
              | (go_at_call 42; (with_reducible refine CF.out.mono ?_); rintro e w1 ⟨rfl, o1, h1, T1⟩)
              | fail)
            go_ret
            unfold appM
            rw [thenM_off HO.out HF.out]
            exact ⟨by unfold goesB; rw [HF.out, HO.out]; rfl, o1, φ, h1.more (by omega) (by omega), T1⟩
        · have f1 : decide ((200 : Int) ≤ (M.now.length : Int)) = true := decide_eq_true (by omega)
          unfold appM
          rw [thenM_no (appOk_full hg hsz), show goesB M (appOk M n) = false by rw [appOk_full hg hsz]; rfl]
          clear hh hg hd hnm h hv hvf
          go_enter Try.func28, Try.ntmps28
          go_wp2_with (first
            | (go_at_call 41; (with_reducible refine (CN.out _).mono ?_); rintro e wn ⟨rfl, rfl⟩)
            | fail)
          go_ret
          exact ⟨rfl, o, φ, HR.out.more (by omega) (by omega), Turn.refl HR.out.own⟩
    · rw [hd] at y6
      unfold appM
      rw [thenM_no (appOk_dead hd), show goesB M (appOk M n) = false by rw [appOk_dead hd]; rfl]
      clear hh hN hg hd h hv hvf
      go_enter Try.func28, Try.ntmps28
      go_wp2_with (first
        | (go_at_call 41; (with_reducible refine (CN.out _).mono ?_); rintro e wn ⟨rfl, rfl⟩)
        | fail)
      go_ret
      exact ⟨rfl, o, φ, HR.out.more (by omega) (by omega), Turn.refl HR.out.own⟩
end
end Go.Mun

-- FsIn
namespace Go.Mun
open Go Go.RowKit Go.Proofs Go.Maps

/-- the files at p, k's, in a world that began as w0 -/
structure FsIn (k p : Nat) (M : FSs) (o : Own) (K L : Nat) (w0 w : World) : Prop where
  rel : ∃ φ, RelP k p M φ o K L w
  below : Below w0.heap.size w0 w
  base : ∀ b, b < w0.heap.size → o b = none
def readM (M : FSs) (n : Ky) : List UInt8 := if isB M n = true then (match getP M.now n with | some i => (M.fs i).b | none => []) else []
def namesM (M : FSs) : List Ky := if M.dead = true then [] else M.now.map (·.1)
section
variable {k p : Nat} {M : FSs} {o o' : Own} {K L : Nat} {w0 w w' : World}
theorem FsIn.own (h : FsIn k p M o K L w0 w) : OwnIn o w := by obtain ⟨φ, h⟩ := h.rel; exact h.own
theorem FsIn.to {M' : FSs} {K' L' : Nat} (h : FsIn k p M o K L w0 w) (hr : ∃ φ, RelP k p M' φ o' K' L' w') (hT : Turn k o o' w w') : FsIn k p M' o' K' L' w0 w' :=
  ⟨hr, h.below.trans (hT.under h.below.size h.base), hT.base h.below.size h.base⟩
theorem FsIn.turn {j q : Nat} {M : FSs} (h : FsIn j q M o K L w0 w) (ho : OwnIn o' w') (hT : Turn k o o' w w') (hj : j ≠ k) : FsIn j q M o' K L w0 w' := by
  obtain ⟨φ, hr⟩ := h.rel
  exact ⟨⟨φ, hr.stays ho hT hj⟩, h.below.trans (hT.under h.below.size h.base), hT.base h.below.size h.base⟩
theorem FsIn.ext (h : FsIn k p M o K L w0 w) (hb : Below w.heap.size w w') : FsIn k p M o K L w0 w' :=
  h.turn (k := k + 1) (h.own.more hb.size) (Turn.below h.own hb) (by omega)
theorem FsIn.more {K' L' : Nat} (h : FsIn k p M o K L w0 w) (hK : K ≤ K') (hL : L ≤ L') : FsIn k p M o K' L' w0 w := by
  obtain ⟨φ, hr⟩ := h.rel
  exact ⟨⟨φ, hr.more hK hL⟩, h.below, h.base⟩
theorem FsIn.fine (h : FsIn k p M o K L w0 w) : Fine M := by obtain ⟨φ, h⟩ := h.rel; exact h.fine
/-- bytes in a block that is nobody's -/
theorem Free.of {v : Value} (h : ∀ ad n c, v = .slice (some ad) n c → o ad.block = none) : Free o k v := fun ad n c e _ t => by rw [h ad n c e]; simp
theorem Free.nil {n c : Nat} : Free o k (.slice none n c) := fun ad n c e t => by cases e
theorem Free.new (ho : OwnIn o w) {A : Option Addr} {n c : Nat} (h : ∀ ad, A = some ad → w.heap.size ≤ ad.block) : Free o k (.slice A n c) := fun ad n' c' e _ t => by
  injection e with e
  rw [ho _ (h ad e)]
  simp
theorem Free.arg {v : Value} {l : List UInt8} (hb : ∀ b, b < w0.heap.size → o b = none) (h : Bytes w0 v l) : Free o k v := fun ad n c e hn t => by
  obtain ⟨A, n', c', e', h1, _, _, h4⟩ := h
  rw [e] at e'
  injection e' with e1 e2 e3
  subst e1 e2
  have hx : ∃ u, (bv l)[0]? = some u := ⟨_, List.getElem?_eq_getElem (by rw [bv_length]; omega)⟩
  obtain ⟨u, hu⟩ := hx
  obtain ⟨ad', e5, hc⟩ := h4 0 u hu
  injection e5 with e5
  subst e5
  have := World.block_lt_of_cell? w0 _ hc
  rw [add_block] at this
  rw [hb _ this]
  simp
theorem New_in (k : Nat) (ho : OwnIn o w) (hb : Below w0.heap.size w0 w) (hn : ∀ b, b < w0.heap.size → o b = none) :
    Calls Try.prog 10 #[] w fun e w' => ∃ p o', e = .returned (.pointer (some ⟨p, 0, none⟩)) ∧ FsIn k p newM o' 0 0 w0 w' ∧ Turn k o o' w w' :=
  (New_any k (fun _ => 0) o w ho).mono fun _ _ ⟨p, o', h1, h2, h3⟩ => ⟨p, o', h1, ⟨⟨_, h2⟩, hb.trans (h3.under hb.size hn), h3.base hb.size hn⟩, h3⟩
theorem App_in (h : FsIn k p M o K L w0 w) (n : Ky) (hn : n.length ≤ 1000000) (va : Value) (l : List UInt8) (hv : Bytes w va l) (hvf : Free o k va) (hl : l.length ≤ 1000000000) (hK : K < 1000000000) (hL : L ≤ 1000000000) :
    Calls Try.prog 28 #[.pointer (some ⟨p, 0, none⟩), .string ⟨n.toArray⟩, va] w fun e w' => e = .returned (.bool (goesB M (appOk M n))) ∧ ∃ o', FsIn k p (appM M n l) o' (K + 2) (L + l.length) w0 w' ∧ Turn k o o' w w' := by
  obtain ⟨φ, hr⟩ := h.rel
  exact (Append_any hr n hn va l hv hvf hl hK hL).mono fun _ w' ⟨h1, o', φ', h2, h3⟩ => ⟨h1, o', h.to ⟨φ', h2⟩ h3, h3⟩
theorem Sync_in (h : FsIn k p M o K L w0 w) (n : Ky) (hn : n.length ≤ 1000000) (hK : K < 1000000000) (hL : L ≤ 1000000000) :
    Calls Try.prog 48 #[.pointer (some ⟨p, 0, none⟩), .string ⟨n.toArray⟩] w fun e w' => e = .returned (.bool (goesB M (isB M n))) ∧ ∃ o', FsIn k p (syncM M n) o' (K + 2) L w0 w' ∧ Turn k o o' w w' := by
  obtain ⟨φ, hr⟩ := h.rel
  exact (Sync_any hr n hn (by omega) hL).mono fun _ w' ⟨h1, o', φ', h2, h3⟩ => ⟨h1, o', h.to ⟨φ', h2⟩ h3, h3⟩
theorem Dir_in (h : FsIn k p M o K L w0 w) (hK : K < 1000000000) (hL : L ≤ 1000000000) :
    Calls Try.prog 65 #[.pointer (some ⟨p, 0, none⟩)] w fun e w' => e = .returned (.bool (goesB M (!M.dead))) ∧ ∃ o', FsIn k p (dirM M) o' (K + 2) L w0 w' ∧ Turn k o o' w w' := by
  obtain ⟨φ, hr⟩ := h.rel
  exact (SyncDir_any hr (by omega) hL).mono fun _ w' ⟨h1, o', φ', h2, h3⟩ => ⟨h1, o', h.to ⟨φ', h2⟩ h3, h3⟩
theorem Ren_in (h : FsIn k p M o K L w0 w) (a b : Ky) (ha : a.length ≤ 1000000) (hb : b.length ≤ 1000000) (hK : K < 1000000000) (hL : L ≤ 1000000000) :
    Calls Try.prog 64 #[.pointer (some ⟨p, 0, none⟩), .string ⟨a.toArray⟩, .string ⟨b.toArray⟩] w fun e w' => e = .returned (.bool (goesB M (isB M a && namedB b))) ∧ ∃ o', FsIn k p (renM M a b) o' (K + 2) L w0 w' ∧ Turn k o o' w w' := by
  obtain ⟨φ, hr⟩ := h.rel
  exact (Rename_any hr a b ha hb hK hL).mono fun _ w' ⟨h1, o', φ', h2, h3⟩ => ⟨h1, o', h.to ⟨φ', h2⟩ h3, h3⟩
theorem Del_in (h : FsIn k p M o K L w0 w) (n : Ky) (hn : n.length ≤ 1000000) (hK : K < 1000000000) (hL : L ≤ 1000000000) :
    Calls Try.prog 62 #[.pointer (some ⟨p, 0, none⟩), .string ⟨n.toArray⟩] w fun e w' => e = .returned (.bool (goesB M (isB M n))) ∧ ∃ o', FsIn k p (delM M n) o' (K + 2) L w0 w' ∧ Turn k o o' w w' := by
  obtain ⟨φ, hr⟩ := h.rel
  exact (Delete_any hr n hn hK hL).mono fun _ w' ⟨h1, o', φ', h2, h3⟩ => ⟨h1, o', h.to ⟨φ', h2⟩ h3, h3⟩
theorem Plan_in (h : FsIn k p M o K L w0 w) (op cut : Int) (kv : Value) (keep : List Bool) (hop : -9223372036854775808 ≤ op ∧ op ≤ 9223372036854775807) (hcut : -9223372036854775808 ≤ cut ∧ cut ≤ 9223372036854775807) (hk : Bools w kv keep) (hko : Free o k kv) (hl : keep.length ≤ 140737488355328) :
    Calls Try.prog 24 #[.pointer (some ⟨p, 0, none⟩), .agg #[.int .i64 op, .int .i64 cut, kv]] w fun e w' => e = .returned (.tuple #[]) ∧ ∃ o', FsIn k p (planM M op cut keep) o' K L w0 w' ∧ Turn k o o' w w' := by
  obtain ⟨φ, hr⟩ := h.rel
  exact (Plan_any hr op cut kv keep hop hcut hk hko hl).mono fun _ w' ⟨h1, o', h2, h3⟩ => ⟨h1, o', h.to ⟨φ, h2⟩ h3, h3⟩
theorem Start_in (h : FsIn k p M o K L w0 w) :
    Calls Try.prog 26 #[.pointer (some ⟨p, 0, none⟩)] w fun e w' => e = .returned (.tuple #[]) ∧ FsIn k p (startM M) o K L w0 w' ∧ Turn k o o w w' := by
  obtain ⟨φ, hr⟩ := h.rel
  exact (Start_any hr).mono fun _ w' ⟨h1, h2, h3⟩ => ⟨h1, h.to ⟨φ, h2⟩ h3, h3⟩
theorem Dead_in (h : FsIn k p M o K L w0 w) : Calls Try.prog 25 #[.pointer (some ⟨p, 0, none⟩)] w fun e w' => e = .returned (.bool M.dead) ∧ w = w' := by
  obtain ⟨φ, hr⟩ := h.rel
  exact Dead_any hr
theorem Names_in (h : FsIn k p M o K L w0 w) (hn : M.now.length ≤ 100000) : Calls Try.prog 36 #[.pointer (some ⟨p, 0, none⟩)] w fun e w' => ∃ v, e = .returned v ∧ w'.ownsRow w.heap.size 9 1 v (namesM M).length ((namesM M).map strV) ∧ Below w.heap.size w w' ∧ FsIn k p M o K L w0 w' := by
  obtain ⟨φ, hr⟩ := h.rel
  cases hd : M.dead
  · have e : namesM M = M.now.map (·.1) := by unfold namesM; rw [hd]; rfl
    rw [e, List.length_map, List.map_map]
    exact (Names_any hr hd hn).mono fun _ w' ⟨v, h1, h2, h3⟩ => ⟨v, h1, h2, h3, h.ext h3⟩
  · have e : namesM M = [] := by unfold namesM; rw [hd]; rfl
    rw [e]
    exact (Names_dead hr hd).mono fun _ w' ⟨h1, h2⟩ => ⟨_, h1, by subst h2; exact ⟨World.ownsRow_nil _ _ _ _, Below.refl _ _, h⟩⟩
theorem Read_in (h : FsIn k p M o K L w0 w) (n : Ky) (hn : n.length ≤ 1000000) (hL : L ≤ 140737488355328) : Calls Try.prog 29 #[.pointer (some ⟨p, 0, none⟩), .string ⟨n.toArray⟩] w fun e w' => ∃ v, e = .returned (.tuple #[v, .bool (isB M n)]) ∧ w'.ownsRow w.heap.size 5 1 v (readM M n).length (bv (readM M n)) ∧ Below w.heap.size w w' ∧ FsIn k p M o K L w0 w' := by
  obtain ⟨φ, hr⟩ := h.rel
  cases hb : isB M n
  · have e : readM M n = [] := by unfold readM; rw [hb]; rfl
    rw [e]
    exact (FsRead_no hr n hn hb).mono fun _ w' ⟨h1, h2⟩ => ⟨_, h1, by subst h2; exact ⟨World.ownsRow_nil _ _ _ _, Below.refl _ _, h⟩⟩
  · obtain ⟨i, hg⟩ := isB_get hb
    have e : readM M n = (M.fs i).b := by unfold readM; rw [hb, hg]; rfl
    rw [e]
    exact (FsRead_yes hr n hn hb hg hL).mono fun _ w' ⟨v, h1, h2, h3⟩ => ⟨v, h1, h2, h3, h.ext h3⟩
end
end Go.Mun

-- CrcPlain
namespace Go.Mun
open Go Go.RowKit

theorem u32_wrap_lt (n : Nat) (h : n < 4294967296) : IntKind.u32.wrap (n : Int) = n := by rw [IntKind.wrap_u32']; omega
theorem u32_xor' (a b : UInt32) : bits .xor .u32 (a.toNat : Int) (b.toNat : Int) = ((a ^^^ b).toNat : Int) := by
  rw [u32_xor_nat _ _ a.toNat_lt b.toNat_lt]; simp
theorem u32_and' (a b : UInt32) : bits .and .u32 (a.toNat : Int) (b.toNat : Int) = ((a &&& b).toNat : Int) := by
  rw [u32_and_nat _ _ a.toNat_lt b.toNat_lt]; simp
theorem u32_of_byte (x : UInt8) : (x.toNat : Int) % 4294967296 = (x.toUInt32.toNat : Int) := by
  have := x.toNat_lt
  rw [UInt8.toNat_toUInt32]
  omega
theorem u32_xor_byte (s : UInt32) (x : UInt8) : bits .xor .u32 (s.toNat : Int) ((x.toNat : Int) % 4294967296) = ((s ^^^ x.toUInt32).toNat : Int) := by
  rw [u32_of_byte, u32_xor']

/-- one turn -/
def crcStep (c : UInt32) : UInt32 := (c >>> 1) ^^^ (3988292384 * (c &&& 1))
def crcSteps : Nat → UInt32 → UInt32
  | 0, c => c
  | k + 1, c => crcStep (crcSteps k c)
def crcByte (c : UInt32) (x : UInt8) : UInt32 := crcSteps 8 (c ^^^ x.toUInt32)
def crcRun (c : UInt32) (l : List UInt8) : UInt32 := l.foldl crcByte c
def crcSum (l : List UInt8) : Int := ((crcRun 4294967295 l ^^^ 4294967295).toNat : Int)

theorem u32_half (t : UInt32) : (t.toNat : Int) / (2 : Int) = ((t >>> 1).toNat : Int) := by
  rw [UInt32.toNat_shiftRight, show (1 : UInt32).toNat = 1 from rfl]
  show _ = ((t.toNat >>> 1 : Nat) : Int)
  rw [Nat.shiftRight_eq_div_pow]
  omega
theorem u32_low (t : UInt32) : bits .and .u32 (t.toNat : Int) 1 = ((t &&& 1).toNat : Int) := u32_and' t 1
theorem u32_low_01 (t : UInt32) : t &&& 1 = 0 ∨ t &&& 1 = 1 := by
  have h : (t &&& 1).toNat = t.toNat % 2 := by
    rw [UInt32.toNat_and]; exact Nat.and_two_pow_sub_one_eq_mod t.toNat 1
  rcases Nat.mod_two_eq_zero_or_one t.toNat with e | e
  · exact .inl (UInt32.toNat_inj.1 (by rw [h, e]; rfl))
  · exact .inr (UInt32.toNat_inj.1 (by rw [h, e]; rfl))
theorem crcStep_odd {t : UInt32} (h : (bits .and .u32 (t.toNat : Int) 1 == 1) = true) : bits .xor .u32 ((t.toNat : Int) / 2) 3988292384 = ((crcStep t).toNat : Int) := by
  rw [u32_low] at h
  have hb := beq_iff_eq.1 h
  have h1 : t &&& 1 = 1 := UInt32.toNat_inj.1 (by show _ = 1; omega)
  rw [u32_half]
  unfold crcStep
  rw [h1]
  exact u32_xor' (t >>> 1) 3988292384
theorem crcStep_even {t : UInt32} (h : (bits .and .u32 (t.toNat : Int) 1 == 1) = false) : (t.toNat : Int) / 2 = ((crcStep t).toNat : Int) := by
  rw [u32_low] at h
  have hb := beq_eq_false_iff_ne.1 h
  have h1 : t &&& 1 = 0 := by
    rcases u32_low_01 t with e | e
    · exact e
    · rw [e] at hb; exact absurd rfl hb
  rw [u32_half]
  unfold crcStep
  rw [h1]
  simp
theorem crcStep_mul (t : UInt32) : bits .xor .u32 ((t.toNat : Int) / 2) (3988292384 * bits .and .u32 (t.toNat : Int) 1 % 4294967296) = ((crcStep t).toNat : Int) := by
  rw [u32_low, u32_half]
  unfold crcStep
  rcases u32_low_01 t with e | e <;> rw [e]
  · exact u32_xor' (t >>> 1) 0
  · exact u32_xor' (t >>> 1) 3988292384
theorem u32_xor_all (t : UInt32) : bits .xor .u32 (t.toNat : Int) 4294967295 = ((t ^^^ 4294967295).toNat : Int) := u32_xor' t 4294967295

theorem crcRun_append (c : UInt32) (l m : List UInt8) : crcRun c (l ++ m) = crcRun (crcRun c l) m := by simp [crcRun]
theorem crcRun_snoc (c : UInt32) (l : List UInt8) (x : UInt8) : crcRun c (l ++ [x]) = crcByte (crcRun c l) x := by simp [crcRun]
theorem take_snoc {α : Type} (l : List α) {k : Nat} (h : k < l.length) : l.take (k + 1) = l.take k ++ [l[k]] := by
  rw [List.take_succ_eq_append_getElem h]
theorem crcRun_take (c : UInt32) (l : List UInt8) {k : Nat} (h : k < l.length) : crcRun c (l.take (k + 1)) = crcByte (crcRun c (l.take k)) l[k] := by
  rw [take_snoc l h, crcRun_snoc]
theorem crcSum_bd (l : List UInt8) : 0 ≤ crcSum l ∧ crcSum l < 4294967296 := by
  unfold crcSum
  have := (crcRun 4294967295 l ^^^ 4294967295).toNat_lt
  omega
theorem crcSum_wrap (l : List UInt8) : wrap64 (bits .xor .u32 ((crcRun 4294967295 l).toNat : Int) 4294967295) = crcSum l := by
  rw [u32_xor_all]
  have hb := crcSum_bd l
  unfold crcSum at hb ⊢
  exact IntWalk.wrap64_in _ (by omega)
end Go.Mun

-- RecPlain
namespace Go.Mun
open Go Go.RowKit

/-- a number's four bytes, the highest first -/
def fourB (n : Nat) : List UInt8 := [UInt8.ofNat (n / 16777216), UInt8.ofNat (n / 65536), UInt8.ofNat (n / 256), UInt8.ofNat n]
theorem fourB_length (n : Nat) : (fourB n).length = 4 := rfl

/-- a record as data -/
structure Rec where
  kind : Int
  del : Bool
  key : List UInt8
  value : List UInt8
  n : Int

def Rec.isEnd (r : Rec) : Bool := decide (r.kind = 2 ∧ 0 ≤ r.n ∧ r.n ≤ 2147483647)
/-- why it has no bytes; 0: it has -/
def Rec.err (r : Rec) : Int :=
  if r.isEnd then 0 else if r.kind ≠ 1 then 1 else if 65536 < r.key.length ∨ (r.del = false ∧ 16777216 < r.value.length) then 3 else 0
/-- its body -/
def Rec.body (r : Rec) : List UInt8 :=
  if r.isEnd then 2 :: fourB r.n.toNat else [1, if r.del then 1 else 0] ++ fourB r.key.length ++ r.key ++ (if r.del then [] else r.value)
/-- its bytes -/
def frameB (b : List UInt8) : List UInt8 := fourB b.length ++ fourB (crcSum b).toNat ++ b
def Rec.bytes (r : Rec) : List UInt8 := frameB r.body

theorem err_not {r : Rec} (h : r.isEnd = false) : r.err = if r.kind ≠ 1 then 1 else if 65536 < r.key.length ∨ (r.del = false ∧ 16777216 < r.value.length) then 3 else 0 := by
  unfold Rec.err
  rw [h, if_neg (by simp)]
theorem err_kind {r : Rec} (h : r.isEnd = false) (hk : r.kind ≠ 1) : r.err = 1 := by rw [err_not h, if_pos hk]
theorem err_long {r : Rec} (h : r.isEnd = false) (hk : r.kind = 1) (hl : 65536 < r.key.length ∨ (r.del = false ∧ 16777216 < r.value.length)) : r.err = 3 := by
  rw [err_not h, if_neg (by simpa using hk), if_pos hl]
theorem err_fits {r : Rec} (h : r.isEnd = false) (hk : r.kind = 1) (hl : ¬ (65536 < r.key.length ∨ (r.del = false ∧ 16777216 < r.value.length))) : r.err = 0 := by
  rw [err_not h, if_neg (by simpa using hk), if_neg hl]
theorem body_change {key value : List UInt8} {n : Int} {del : Bool} (h : Rec.isEnd ⟨1, del, key, value, n⟩ = false) :
    Rec.body ⟨1, del, key, value, n⟩ = [1, if del then 1 else 0] ++ fourB key.length ++ key ++ (if del then [] else value) := by
  unfold Rec.body
  rw [h, if_neg (by simp)]
theorem body_set {key value : List UInt8} {n : Int} (h : Rec.isEnd ⟨1, false, key, value, n⟩ = false) : Rec.body ⟨1, false, key, value, n⟩ = [1, 0] ++ fourB key.length ++ key ++ value := body_change h
theorem body_del {key value : List UInt8} {n : Int} (h : Rec.isEnd ⟨1, true, key, value, n⟩ = false) : Rec.body ⟨1, true, key, value, n⟩ = [1, 1] ++ fourB key.length ++ key := by
  rw [body_change h]; simp
theorem body_bd {r : Rec} (h : r.err = 0) : r.body.length ≤ 16842758 := by
  obtain ⟨kind, del, key, value, n⟩ := r
  cases he : Rec.isEnd ⟨kind, del, key, value, n⟩ with
  | true => unfold Rec.body; rw [if_pos he]; simp [fourB]
  | false =>
    rw [err_not he] at h
    simp only at h
    have hk : kind = 1 := by
      rcases Classical.em (kind = 1) with e | e
      · exact e
      · rw [if_pos e] at h; cases h
    subst hk
    rw [if_neg (by simp)] at h
    have hl : ¬ (65536 < key.length ∨ (del = false ∧ 16777216 < value.length)) := fun e => by rw [if_pos e] at h; cases h
    rw [body_change he]
    cases del <;> simp [fourB_length] at hl ⊢ <;> omega
theorem fourB_cells (n : Nat) : bv (fourB n) = [.int .u8 ((n / 16777216 : Nat) % 256), .int .u8 ((n / 65536 : Nat) % 256), .int .u8 ((n / 256 : Nat) % 256), .int .u8 ((n : Nat) % 256)] := by
  unfold bv fourB
  simp
theorem bytes_length (r : Rec) : r.bytes.length = 8 + r.body.length := by
  unfold Rec.bytes frameB
  simp only [List.length_append, fourB_length]
theorem body_set_length {key value : List UInt8} {n : Int} (h : Rec.isEnd ⟨1, false, key, value, n⟩ = false) : (Rec.body ⟨1, false, key, value, n⟩).length = 6 + key.length + value.length := by
  rw [body_set h]; simp only [List.length_append, fourB_length]; simp
theorem body_del_length {key value : List UInt8} {n : Int} (h : Rec.isEnd ⟨1, true, key, value, n⟩ = false) : (Rec.body ⟨1, true, key, value, n⟩).length = 6 + key.length := by
  rw [body_del h]; simp only [List.length_append, fourB_length]; simp
theorem isEnd_one {del : Bool} {key value : List UInt8} {n : Int} : Rec.isEnd ⟨1, del, key, value, n⟩ = false := by
  unfold Rec.isEnd; exact decide_eq_false (by simp)
theorem isEnd_two {del : Bool} {key value : List UInt8} {n : Int} (h0 : 0 ≤ n) (h1 : n ≤ 2147483647) : Rec.isEnd ⟨2, del, key, value, n⟩ = true := by
  unfold Rec.isEnd; exact decide_eq_true ⟨rfl, h0, h1⟩
end Go.Mun

-- CrcBits
namespace Go.Mun
open Go

def bit1 (b : Bool) : UInt32 := if b then 1 else 0
/-- the register behind n bits -/
def crcB : Nat → UInt32 → (Nat → Bool) → UInt32
  | 0, c, _ => c
  | n + 1, c, f => crcB n (crcStep (c ^^^ bit1 (f 0))) (fun i => f (i + 1))
/-- n bits as a number -/
def wordOf : Nat → (Nat → Bool) → UInt32
  | 0, _ => 0
  | n + 1, f => bit1 (f 0) ^^^ (wordOf n (fun i => f (i + 1)) <<< 1)

theorem u32_xor_assoc (a b c : UInt32) : a ^^^ b ^^^ c = a ^^^ (b ^^^ c) := UInt32.xor_assoc a b c
theorem half_xor (a b : UInt32) : (a ^^^ b) >>> 1 = (a >>> 1) ^^^ (b >>> 1) := by
  apply UInt32.toBitVec_inj.1
  simp [BitVec.ushiftRight_xor_distrib]
theorem low_xor (a b : UInt32) : (a ^^^ b) &&& 1 = (a &&& 1) ^^^ (b &&& 1) := by
  apply UInt32.toBitVec_inj.1
  simp only [UInt32.toBitVec_and, UInt32.toBitVec_xor]
  apply BitVec.eq_of_getLsbD_eq
  intro i hi
  simp only [BitVec.getLsbD_and, BitVec.getLsbD_xor]
  cases a.toBitVec.getLsbD i <;> cases b.toBitVec.getLsbD i <;> cases (1 : UInt32).toBitVec.getLsbD i <;> rfl
theorem crcStep_xor (a b : UInt32) : crcStep (a ^^^ b) = crcStep a ^^^ crcStep b := by
  unfold crcStep
  rw [half_xor, low_xor]
  generalize a >>> 1 = x
  generalize b >>> 1 = y
  have swap : ∀ p q r s : UInt32, (p ^^^ q) ^^^ (r ^^^ s) = (p ^^^ r) ^^^ (q ^^^ s) := by
    intro p q r s
    rw [UInt32.xor_assoc, UInt32.xor_assoc, ← UInt32.xor_assoc q, ← UInt32.xor_assoc r, UInt32.xor_comm q r]
  rcases u32_low_01 a with e | e <;> rcases u32_low_01 b with e' | e' <;> rw [e, e', swap x] <;> rfl
theorem crcStep_zero {d : UInt32} (h : crcStep d = 0) : d = 0 := by
  unfold crcStep at h
  have hd : d.toNat = 2 * (d >>> 1).toNat + (d &&& 1).toNat := by
    have h1 : (d >>> 1).toNat = d.toNat / 2 := by
      have := u32_half d; omega
    have h2 : (d &&& 1).toNat = d.toNat % 2 := by
      rw [UInt32.toNat_and]; exact Nat.and_two_pow_sub_one_eq_mod d.toNat 1
    omega
  rcases u32_low_01 d with e | e
  · rw [e] at h hd
    have h' : d >>> 1 = 0 := by simpa using h
    rw [h'] at hd
    exact UInt32.toNat_inj.1 hd
  · rw [e] at h
    have h2 : d >>> 1 = 3988292384 := by
      have := congrArg (· ^^^ (3988292384 * 1 : UInt32)) h
      simp only [UInt32.xor_assoc, UInt32.xor_self] at this
      simpa using this
    have h3 : (d >>> 1).toNat = d.toNat / 2 := by have := u32_half d; omega
    rw [h2] at h3
    have := d.toNat_lt
    have h4 : (3988292384 : UInt32).toNat = 3988292384 := rfl
    omega
theorem crcStep_shift {y : UInt32} (h : y.toNat < 2147483648) : crcStep (y <<< 1) = y := by
  have hn : (y <<< 1).toNat = 2 * y.toNat := by
    rw [UInt32.toNat_shiftLeft]
    show (y.toNat <<< 1) % 4294967296 = _
    rw [Nat.shiftLeft_eq]; omega
  have h1 : (y <<< 1) &&& 1 = 0 := by
    apply UInt32.toNat_inj.1
    rw [UInt32.toNat_and, hn]
    show 2 * y.toNat &&& 1 = 0
    have := Nat.and_two_pow_sub_one_eq_mod (2 * y.toNat) 1
    simp at this ⊢
  unfold crcStep
  rw [h1]
  apply UInt32.toNat_inj.1
  have h2 : ((y <<< 1) >>> 1).toNat = (y <<< 1).toNat / 2 := by have := u32_half (y <<< 1); omega
  have h3 : ((y <<< 1) >>> 1) ^^^ (3988292384 * 0 : UInt32) = (y <<< 1) >>> 1 := by simp
  rw [h3, h2, hn]
  omega
theorem crcSteps_xor (n : Nat) (a b : UInt32) : crcSteps n (a ^^^ b) = crcSteps n a ^^^ crcSteps n b := by
  induction n with
  | zero => rfl
  | succ n ih => simp only [crcSteps]; rw [ih, crcStep_xor]
theorem crcSteps_zero (n : Nat) {d : UInt32} (h : crcSteps n d = 0) : d = 0 := by
  induction n with
  | zero => exact h
  | succ n ih => exact ih (crcStep_zero h)
theorem crcSteps_step (n : Nat) (c : UInt32) : crcSteps (n + 1) c = crcSteps n (crcStep c) := by
  induction n with
  | zero => rfl
  | succ n ih => rw [crcSteps, ih]; rfl

theorem bit1_le (b : Bool) : (bit1 b).toNat ≤ 1 := by cases b <;> decide
theorem wordOf_lt (n : Nat) : ∀ f, n ≤ 32 → (wordOf n f).toNat < 2 ^ n ∧ (n < 32 → ((wordOf n f) <<< 1).toNat = 2 * (wordOf n f).toNat) := by
  induction n with
  | zero => intro f _; exact ⟨by simp [wordOf], fun _ => by simp [wordOf]⟩
  | succ n ih =>
    intro f hn
    obtain ⟨h1, h2⟩ := ih (fun i => f (i + 1)) (by omega)
    have h2 := h2 (by omega)
    have h3 : (wordOf (n + 1) f).toNat < 2 ^ (n + 1) := by
      unfold wordOf
      rw [UInt32.toNat_xor]
      refine Nat.xor_lt_two_pow ?_ ?_
      · have := bit1_le (f 0)
        have : 2 ≤ 2 ^ (n + 1) := by rw [Nat.pow_succ]; have := Nat.one_le_two_pow (n := n); omega
        omega
      · rw [h2, Nat.pow_succ]; omega
    refine ⟨h3, fun hlt => ?_⟩
    have h4 : (2 : Nat) ^ (n + 1) ≤ 2 ^ 31 := Nat.pow_le_pow_right (by omega) (by omega)
    rw [UInt32.toNat_shiftLeft]
    show ((wordOf (n + 1) f).toNat <<< 1) % 4294967296 = _
    rw [Nat.shiftLeft_eq]
    omega
theorem crcB_steps (n : Nat) : ∀ c f, n ≤ 32 → crcB n c f = crcSteps n (c ^^^ wordOf n f) := by
  induction n with
  | zero => intro c f _; simp [crcB, crcSteps, wordOf]
  | succ n ih =>
    intro c f hn
    rw [crcSteps_step]
    unfold crcB wordOf
    rw [ih _ _ (by omega), ← UInt32.xor_assoc c, crcStep_xor (c ^^^ bit1 (f 0))]
    congr 2
    have h1 := (wordOf_lt n (fun i => f (i + 1)) (by omega)).1
    have h4 : (2 : Nat) ^ n ≤ 2 ^ 31 := Nat.pow_le_pow_right (by omega) (by omega)
    rw [crcStep_shift (by omega)]
theorem wordOf_zero (n : Nat) : ∀ f, n ≤ 32 → wordOf n f = 0 → ∀ i, i < n → f i = false := by
  induction n with
  | zero => intro f _ _ i hi; omega
  | succ n ih =>
    intro f hn h i hi
    have h1 := (wordOf_lt n (fun i => f (i + 1)) (by omega)).2 (by omega)
    have hx : (bit1 (f 0)).toNat ^^^ 2 * (wordOf n (fun i => f (i + 1))).toNat = 0 := by
      have := congrArg UInt32.toNat h
      unfold wordOf at this
      rw [UInt32.toNat_xor, h1] at this
      exact this
    have hx' : (bit1 (f 0)).toNat = 2 * (wordOf n (fun i => f (i + 1))).toNat := by
      have := congrArg (· ^^^ 2 * (wordOf n (fun i => f (i + 1))).toNat) hx
      simpa [Nat.xor_assoc] using this
    have hb := bit1_le (f 0)
    have h0 : (bit1 (f 0)).toNat = 0 := by omega
    have hw : (wordOf n (fun i => f (i + 1))).toNat = 0 := by omega
    cases i with
    | zero =>
      cases hf : f 0 with
      | false => rfl
      | true => rw [hf] at h0; exact absurd h0 (by decide)
    | succ i => exact ih (fun i => f (i + 1)) (by omega) (UInt32.toNat_inj.1 hw) i (by omega)
theorem crcB_xor (n : Nat) : ∀ (c d : UInt32) (f g : Nat → Bool), crcB n (c ^^^ d) (fun i => f i ^^ g i) = crcB n c f ^^^ crcB n d g := by
  induction n with
  | zero => intros; rfl
  | succ n ih =>
    intro c d f g
    unfold crcB
    have hb : bit1 (f 0 ^^ g 0) = bit1 (f 0) ^^^ bit1 (g 0) := by cases f 0 <;> cases g 0 <;> rfl
    have : c ^^^ d ^^^ bit1 (f 0 ^^ g 0) = (c ^^^ bit1 (f 0)) ^^^ (d ^^^ bit1 (g 0)) := by
      rw [hb, UInt32.xor_assoc, UInt32.xor_assoc, ← UInt32.xor_assoc d, ← UInt32.xor_assoc (bit1 (f 0)), UInt32.xor_comm d]
    rw [this, crcStep_xor]
    exact ih _ _ _ _
theorem crcB_add (m n : Nat) : ∀ c f, crcB (m + n) c f = crcB n (crcB m c f) (fun i => f (m + i)) := by
  induction m with
  | zero => intro c f; simp [crcB]
  | succ m ih =>
    intro c f
    rw [show m + 1 + n = (m + n) + 1 from by omega]
    simp only [crcB]
    rw [ih]
    congr 1
    funext i
    rw [show m + 1 + i = m + i + 1 from by omega]
theorem crcB_none (n : Nat) : ∀ c (f : Nat → Bool), (∀ i, i < n → f i = false) → crcB n c f = crcSteps n c := by
  induction n with
  | zero => intros; rfl
  | succ n ih =>
    intro c f h
    rw [crcSteps_step]
    simp only [crcB]
    rw [ih _ _ fun i hi => h (i + 1) (by omega), h 0 (by omega)]
    congr 1
    simp [bit1]
theorem crcSteps_nil (n : Nat) : crcSteps n 0 = 0 := by
  induction n with
  | zero => rfl
  | succ n ih => rw [crcSteps, ih]; rfl

/-- Up to 32 bits side by side, not all of them left alone: the register ends otherwise. -/
theorem burst (N k : Nat) (c : UInt32) (f g : Nat → Bool) (hk : k + 32 ≤ N) (hout : ∀ i, i < N → (i < k ∨ k + 32 ≤ i) → g i = false) (hin : ∃ i, i < 32 ∧ g (k + i) = true) :
    crcB N c (fun i => f i ^^ g i) ≠ crcB N c f := by
  intro h
  have h1 := crcB_xor N c 0 f g
  simp only [UInt32.xor_zero] at h1
  rw [h1] at h
  have h2 : crcB N 0 g = 0 := by
    have := congrArg (crcB N c f ^^^ ·) h
    simp only [← UInt32.xor_assoc, UInt32.xor_self, UInt32.zero_xor] at this
    exact this
  rw [show N = k + (32 + (N - k - 32)) from by omega, crcB_add, crcB_add, crcB_none k 0 g fun i hi => hout i (by omega) (.inl hi), crcSteps_nil,
    crcB_none (N - k - 32) _ _ fun i hi => hout _ (by omega) (.inr (by omega)), crcB_steps 32 _ _ (by omega)] at h2
  have h3 := crcSteps_zero _ (crcSteps_zero _ h2)
  simp only [UInt32.zero_xor] at h3
  obtain ⟨i, hi, hg⟩ := hin
  have := wordOf_zero 32 _ (by omega) h3 i hi
  rw [hg] at this
  cases this

/-! ### the bits of bytes -/
def bitOf (l : List UInt8) (p : Nat) : Bool := ((l[p / 8]?.getD 0).toNat).testBit (p % 8)
theorem wordOf_byte (x : UInt8) (f : Nat → Bool) (h : ∀ i, i < 8 → f i = x.toNat.testBit i) : wordOf 8 f = x.toUInt32 := by
  have e : ∀ n : Nat, n < 256 → wordOf 8 (fun i => n.testBit i) = UInt32.ofNat n := by decide +kernel
  have h2 : ∀ n g, (∀ i, i < n → f (i + g) = x.toNat.testBit (i + g)) → wordOf n (fun i => f (i + g)) = wordOf n (fun i => x.toNat.testBit (i + g)) := by
    intro n
    induction n with
    | zero => intros; rfl
    | succ n ih =>
      intro g h
      unfold wordOf
      simp only [Nat.zero_add]
      rw [show f g = x.toNat.testBit g from by simpa using h 0 (by omega)]
      have := ih (g + 1) fun i hi => by
        have := h (i + 1) (by omega)
        rw [show i + 1 + g = i + (g + 1) from by omega] at this
        exact this
      simp only [show ∀ i, i + 1 + g = i + (g + 1) from fun i => by omega]
      rw [this]
  have h3 := h2 8 0 fun i hi => h i hi
  simp only [Nat.add_zero] at h3
  show wordOf 8 (fun i => f i) = _
  rw [h3, e x.toNat x.toNat_lt]
  apply UInt32.toNat_inj.1
  have := x.toNat_lt
  simp
theorem crcRun_bits (l : List UInt8) : ∀ c, crcRun c l = crcB (8 * l.length) c (bitOf l) := by
  induction l with
  | nil => intro c; rfl
  | cons x l ih =>
    intro c
    rw [List.length_cons, show 8 * (l.length + 1) = 8 + 8 * l.length from by omega, crcB_add, crcB_steps 8 _ _ (by omega),
      wordOf_byte x (bitOf (x :: l)) fun i hi => by
        unfold bitOf
        rw [show i / 8 = 0 from by omega, show i % 8 = i from by omega]; rfl]
    show crcRun (crcByte c x) l = _
    rw [ih]
    unfold crcByte
    congr 1
    funext i
    unfold bitOf
    rw [show (8 + i) / 8 = i / 8 + 1 from by omega, show (8 + i) % 8 = i % 8 from by omega]; rfl
/-- The sums of two messages that differ in up to 32 bits side by side. -/
theorem crcSum_turned (l m : List UInt8) (k : Nat) (g : Nat → Bool) (hl : m.length = l.length) (hk : k + 32 ≤ 8 * l.length)
    (hout : ∀ i, (i < k ∨ k + 32 ≤ i) → g i = false) (hin : ∃ i, i < 32 ∧ g (k + i) = true) (hm : ∀ i, i < 8 * l.length → bitOf m i = (bitOf l i ^^ g i)) : crcSum m ≠ crcSum l := by
  have hne := burst (8 * l.length) k 4294967295 (bitOf l) g hk (fun i _ h => hout i h) hin
  have hcong : ∀ n c (f f' : Nat → Bool), (∀ i, i < n → f i = f' i) → crcB n c f = crcB n c f' := by
    intro n
    induction n with
    | zero => intros; rfl
    | succ n ih => intro c f f' h; simp only [crcB]; rw [h 0 (by omega)]; exact ih _ _ _ fun i hi => h (i + 1) (by omega)
  intro h
  apply hne
  rw [← hcong _ _ _ _ hm, ← crcRun_bits l, ← hl, ← crcRun_bits m]
  unfold crcSum at h
  have h2 : crcRun 4294967295 m ^^^ 4294967295 = crcRun 4294967295 l ^^^ 4294967295 := UInt32.toNat_inj.1 (by omega)
  have := congrArg (· ^^^ (4294967295 : UInt32)) h2
  simpa [UInt32.xor_assoc] using this
end Go.Mun

-- RecNext
namespace Go.Mun
open Go Go.RowKit

/-- the number of the first four bytes -/
def numB (l : List UInt8) : Nat := (l.getD 0 0).toNat * 16777216 + (l.getD 1 0).toNat * 65536 + (l.getD 2 0).toNat * 256 + (l.getD 3 0).toNat
theorem numB_lt (l : List UInt8) : numB l < 4294967296 := by
  unfold numB
  have h0 := (l.getD 0 0).toNat_lt
  have h1 := (l.getD 1 0).toNat_lt
  have h2 := (l.getD 2 0).toNat_lt
  have h3 := (l.getD 3 0).toNat_lt
  omega
theorem ofNat_toNat (n : Nat) : (UInt8.ofNat n).toNat = n % 256 := by simp
theorem numB_four {n : Nat} (h : n < 4294967296) (m : List UInt8) : numB (fourB n ++ m) = n := by
  unfold numB fourB
  simp only [List.cons_append, List.nil_append, List.getD_cons_zero, List.getD_cons_succ, ofNat_toNat]
  omega
theorem numB_four' {n : Nat} (h : n < 4294967296) : numB (fourB n) = n := by
  have := numB_four h []
  simpa using this
theorem four_cons (a b c d : UInt8) (m : List UInt8) : fourB (numB (a :: b :: c :: d :: m)) = [a, b, c, d] := by
  have ha := a.toNat_lt
  have hb := b.toNat_lt
  have hc := c.toNat_lt
  have hd := d.toNat_lt
  unfold numB fourB
  simp only [List.getD_cons_zero, List.getD_cons_succ]
  have e : ∀ (n : Nat) (x : UInt8), n % 256 = x.toNat → UInt8.ofNat n = x := fun n x h => UInt8.toNat_inj.1 (by rw [ofNat_toNat]; exact h)
  rw [e _ a (by omega), e _ b (by omega), e _ c (by omega), e _ d (by omega)]
theorem four_numB {l : List UInt8} (h : 4 ≤ l.length) : fourB (numB l) = l.take 4 := by
  match l, h with
  | a :: b :: c :: d :: m, _ => rw [four_cons]; rfl
theorem numB_take {l : List UInt8} {k : Nat} (h : 4 ≤ k) : numB (l.take k) = numB l := by
  unfold numB
  simp only [List.getD_eq_getElem?_getD, List.getElem?_take]
  rw [if_pos (by omega), if_pos (by omega), if_pos (by omega), if_pos (by omega)]

def Rec.zero : Rec := ⟨0, false, [], [], 0⟩
/-- the record of a body -/
def readB (b : List UInt8) : Option Rec :=
  if b.getD 0 0 = 2 then
    if b.length ≠ 5 ∨ 2147483647 < numB (b.drop 1) then none else some ⟨2, false, [], [], (numB (b.drop 1) : Nat)⟩
  else if b.getD 0 0 ≠ 1 ∨ b.length < 6 ∨ 1 < (b.getD 1 0).toNat then none
  else if 65536 < numB (b.drop 2) ∨ b.length < numB (b.drop 2) + 6 then none
  else if (b.getD 1 0 = 1 ∧ 6 + numB (b.drop 2) < b.length) ∨ 16777216 + 6 + numB (b.drop 2) < b.length then none
  else some ⟨1, b.getD 1 0 = 1, (b.take (6 + numB (b.drop 2))).drop 6, b.drop (6 + numB (b.drop 2)), 0⟩
/-- what is told of a body that has been read -/
def readT (o : Option Rec) (k : Nat) : Rec × Nat × Int :=
  match o with
  | none => (.zero, 0, 4)
  | some r => (r, 8 + k, 0)
/-- what bytes begin with: the record, how many bytes it has, why it is none (0: it is one) -/
def nextB (b : List UInt8) : Rec × Nat × Int :=
  if b.length < 4 then (.zero, 0, 6)
  else if numB b = 0 ∨ 16842758 < numB b then (.zero, 0, 4)
  else if b.length < 8 + numB b then (.zero, 0, 6)
  else if (numB (b.drop 4) : Int) ≠ crcSum ((b.take (8 + numB b)).drop 8) then (.zero, 0, 5)
  else readT (readB ((b.take (8 + numB b)).drop 8)) (numB b)

/-- the same record, as the document compares them -/
def Rec.sameB (a b : Rec) : Bool :=
  decide (a.kind = b.kind) && ((decide (a.kind = 2) && decide (a.n = b.n)) || (decide (a.kind ≠ 2) && (a.del == b.del && decide (a.key = b.key) && (a.del || decide (a.value = b.value)))))
/-- a record as it is read -/
def Rec.norm (r : Rec) : Rec := if r.isEnd then ⟨2, false, [], [], r.n⟩ else ⟨1, r.del, r.key, if r.del then [] else r.value, 0⟩

theorem crcSum_toNat (l : List UInt8) : ((crcSum l).toNat : Int) = crcSum l ∧ (crcSum l).toNat < 4294967296 := by
  have := crcSum_bd l
  omega

theorem frame_parts (body more : List UInt8) (h : body.length < 4294967296) :
    numB (frameB body ++ more) = body.length ∧ (frameB body ++ more).length = 8 + body.length + more.length ∧ (numB ((frameB body ++ more).drop 4) : Int) = crcSum body ∧
      ((frameB body ++ more).take (8 + body.length)).drop 8 = body := by
  obtain ⟨h1, h2⟩ := crcSum_toNat body
  have e : frameB body ++ more = fourB body.length ++ (fourB (crcSum body).toNat ++ (body ++ more)) := by unfold frameB; simp
  refine ⟨?_, ?_, ?_, ?_⟩
  · rw [e]; exact numB_four h _
  · rw [e]; simp only [List.length_append, fourB_length]; omega
  · rw [e, List.drop_left' (fourB_length _), numB_four h2, h1]
  · have e' : frameB body ++ more = (fourB body.length ++ fourB (crcSum body).toNat ++ body) ++ more := rfl
    rw [e', List.take_left' (by simp only [List.length_append, fourB_length]), List.drop_left' (by simp only [List.length_append, fourB_length])]

theorem readB_end {n : Nat} (h : n ≤ 2147483647) : readB (2 :: fourB n) = some ⟨2, false, [], [], (n : Int)⟩ := by
  unfold readB
  rw [if_pos (by rfl), if_neg (by
    show ¬ ((2 :: fourB n).length ≠ 5 ∨ 2147483647 < numB (fourB n))
    rw [numB_four' (by omega)]
    simp [fourB_length]; omega)]
  show some (Rec.mk 2 false [] [] ((numB (fourB n) : Nat) : Int)) = _
  rw [numB_four' (by omega)]
theorem readB_change {key value : List UInt8} {del : Bool} (hk : key.length ≤ 65536) (hv : value.length ≤ 16777216) (hd : del = true → value = []) :
    readB ([1, if del then 1 else 0] ++ fourB key.length ++ key ++ value) = some ⟨1, del, key, value, 0⟩ := by
  have hlen : ([1, if del then 1 else 0] ++ fourB key.length ++ key ++ value : List UInt8).length = 6 + key.length + value.length := by
    simp only [List.length_append, fourB_length]; simp
  have hdrop : ([1, if del then 1 else 0] ++ fourB key.length ++ key ++ value : List UInt8).drop 2 = fourB key.length ++ (key ++ value) := by simp
  have hn : numB (([1, if del then 1 else 0] ++ fourB key.length ++ key ++ value : List UInt8).drop 2) = key.length := by rw [hdrop]; exact numB_four (by omega) _
  have h0 : ([1, if del then 1 else 0] ++ fourB key.length ++ key ++ value : List UInt8).getD 0 0 = 1 := rfl
  have h1 : ([1, if del then 1 else 0] ++ fourB key.length ++ key ++ value : List UInt8).getD 1 0 = if del then 1 else 0 := rfl
  have ht : (([1, if del then 1 else 0] ++ fourB key.length ++ key ++ value : List UInt8).take (6 + key.length)).drop 6 = key := by
    rw [List.take_left' (by simp only [List.length_append, fourB_length]; simp), List.drop_left' (by simp only [List.length_append, fourB_length]; simp)]
  have hr : ([1, if del then 1 else 0] ++ fourB key.length ++ key ++ value : List UInt8).drop (6 + key.length) = value := by
    rw [List.drop_left' (by simp only [List.length_append, fourB_length]; simp)]
  unfold readB
  rw [hn, hlen, h0, h1, ht, hr]
  rw [if_neg (by decide), if_neg (by cases del <;> simp <;> omega), if_neg (by omega), if_neg ?_]
  · cases del <;> simp
  · rintro (⟨e, h⟩ | h)
    · cases del
      · exact absurd e (by decide)
      · rw [hd rfl] at h; simp at h
    · omega

theorem readB_body {r : Rec} (h : r.err = 0) : readB r.body = some r.norm := by
  obtain ⟨kind, del, key, value, n⟩ := r
  cases he : Rec.isEnd ⟨kind, del, key, value, n⟩ with
  | true =>
    have hb : Rec.body ⟨kind, del, key, value, n⟩ = 2 :: fourB n.toNat := by unfold Rec.body; rw [if_pos he]
    have hn : Rec.norm ⟨kind, del, key, value, n⟩ = ⟨2, false, [], [], n⟩ := by unfold Rec.norm; rw [if_pos he]
    have hi := of_decide_eq_true he
    rw [hb, hn, readB_end (by have := hi.2; simp only at this; omega)]
    have : ((n.toNat : Nat) : Int) = n := by have := hi.2.1; simp only at this; omega
    rw [this]
  | false =>
    have hn : Rec.norm ⟨kind, del, key, value, n⟩ = ⟨1, del, key, if del then [] else value, 0⟩ := by unfold Rec.norm; rw [he, if_neg (by simp)]
    rw [err_not he] at h
    simp only at h
    have hk : kind = 1 := by
      rcases Classical.em (kind = 1) with e | e
      · exact e
      · rw [if_pos e] at h; cases h
    subst hk
    rw [if_neg (by simp)] at h
    have hl : ¬ (65536 < key.length ∨ (del = false ∧ 16777216 < value.length)) := fun e => by rw [if_pos e] at h; cases h
    rw [body_change he, hn]
    refine readB_change (by omega) ?_ ?_
    · cases del
      · simp at hl ⊢; omega
      · simp
    · intro e; rw [e]; rfl

theorem body_pos (r : Rec) : 0 < r.body.length := by
  unfold Rec.body
  split <;> simp <;> omega

/-- A packed record, with anything behind it, is read as it. -/
theorem next_pack {r : Rec} (h : r.err = 0) (more : List UInt8) : nextB (r.bytes ++ more) = (r.norm, r.bytes.length, 0) := by
  have hbd := body_bd h
  have hpos := body_pos r
  obtain ⟨h1, h2, h3, h4⟩ := frame_parts r.body more (by omega)
  have hb : r.bytes ++ more = frameB r.body ++ more := rfl
  unfold nextB
  rw [hb, h1, h2, h3, h4, if_neg (by omega), if_neg (by omega), if_neg (by omega), if_neg (by simp), readB_body h]
  simp only [bytes_length, readT]

theorem same_norm {r : Rec} (h : r.err = 0) : r.sameB r.norm = true := by
  obtain ⟨kind, del, key, value, n⟩ := r
  cases he : Rec.isEnd ⟨kind, del, key, value, n⟩ with
  | true =>
    have hi := of_decide_eq_true he
    unfold Rec.norm
    rw [if_pos he]
    unfold Rec.sameB
    simp only at hi ⊢
    rw [hi.1]
    simp
  | false =>
    unfold Rec.norm
    rw [he, if_neg (by simp)]
    rw [err_not he] at h
    simp only at h
    have hk : kind = 1 := by
      rcases Classical.em (kind = 1) with e | e
      · exact e
      · rw [if_pos e] at h; cases h
    subst hk
    unfold Rec.sameB
    cases del <;> simp

/-- A record that is cut short is none. -/
theorem next_short {r : Rec} (h : r.err = 0) {k : Nat} (hk : k < r.bytes.length) : nextB (r.bytes.take k) = (.zero, 0, 6) := by
  have hbd := body_bd h
  have hpos := body_pos r
  obtain ⟨h1, h2, _, _⟩ := frame_parts r.body [] (by omega)
  simp only [List.append_nil, List.length_nil] at h1 h2
  have hb : r.bytes = frameB r.body := rfl
  rw [hb] at hk ⊢
  unfold nextB
  by_cases h4 : k < 4
  · rw [if_pos (by rw [List.length_take]; omega)]
  · rw [numB_take (by omega), h1, if_neg (by rw [List.length_take]; omega), if_neg (by omega), if_pos (by rw [List.length_take]; omega)]

/-! ### a turned byte -/
theorem crcSteps_inj {n : Nat} {a b : UInt32} (h : crcSteps n a = crcSteps n b) : a = b := by
  have := crcSteps_xor n a b
  rw [h, UInt32.xor_self] at this
  have := crcSteps_zero n this
  exact UInt32.xor_eq_zero_iff.1 this
theorem byte_u32_inj {x y : UInt8} (h : x.toUInt32 = y.toUInt32) : x = y := by
  have := congrArg UInt32.toNat h
  rw [UInt8.toNat_toUInt32, UInt8.toNat_toUInt32] at this
  exact UInt8.toNat_inj.1 this
theorem crcByte_inj {c d : UInt32} {x : UInt8} (h : crcByte c x = crcByte d x) : c = d := by
  have := crcSteps_inj h
  have h2 := congrArg (· ^^^ x.toUInt32) this
  simpa [UInt32.xor_assoc] using h2
theorem crcByte_inj' {c : UInt32} {x y : UInt8} (h : crcByte c x = crcByte c y) : x = y := by
  have := crcSteps_inj h
  have h2 := congrArg (c ^^^ ·) this
  simp only [← UInt32.xor_assoc, UInt32.xor_self, UInt32.zero_xor] at h2
  exact byte_u32_inj h2
theorem crcRun_inj (l : List UInt8) : ∀ {c d : UInt32}, crcRun c l = crcRun d l → c = d := by
  induction l with
  | nil => intro c d h; exact h
  | cons x l ih => intro c d h; exact crcByte_inj (ih h)
theorem crcSum_set {l : List UInt8} {i : Nat} (hi : i < l.length) {y : UInt8} (hy : y ≠ l[i]) : crcSum (l.set i y) ≠ crcSum l := by
  intro h
  unfold crcSum at h
  have h1 : crcRun 4294967295 (l.set i y) ^^^ 4294967295 = crcRun 4294967295 l ^^^ 4294967295 := UInt32.toNat_inj.1 (by omega)
  have h2 : crcRun 4294967295 (l.set i y) = crcRun 4294967295 l := by
    have := congrArg (· ^^^ (4294967295 : UInt32)) h1
    simpa [UInt32.xor_assoc] using this
  have e1 : l.set i y = l.take i ++ ([y] ++ l.drop (i + 1)) := by rw [List.set_eq_take_append_cons_drop, if_pos hi]; rfl
  have e2 : l = l.take i ++ ([l[i]] ++ l.drop (i + 1)) := by
    conv => lhs; rw [← List.take_append_drop i l]
    rw [List.drop_eq_getElem_cons hi]; rfl
  rw [e1] at h2
  conv at h2 => rhs; rw [e2]
  rw [crcRun_append, crcRun_append, crcRun_append, crcRun_append] at h2
  exact hy (crcByte_inj' (crcRun_inj _ h2))
theorem xor_ne {x y : UInt8} (h : y ≠ 0) : x ^^^ y ≠ x := by
  intro e
  have := congrArg (x ^^^ ·) e
  simp only [← UInt8.xor_assoc, UInt8.xor_self, UInt8.zero_xor] at this
  exact h this

theorem numB_set_ne {l : List UInt8} {i : Nat} (hi : i < 4) (hl : 4 ≤ l.length) {y : UInt8} (hy : y ≠ l.getD i 0) : numB (l.set i y) ≠ numB l := by
  match l, hl with
  | a :: b :: c :: d :: m, _ =>
    have ha := a.toNat_lt
    have hb := b.toNat_lt
    have hc := c.toNat_lt
    have hd := d.toNat_lt
    have hyl := y.toNat_lt
    have hne : y.toNat ≠ ((a :: b :: c :: d :: m).getD i 0).toNat := fun e => hy (UInt8.toNat_inj.1 e)
    match i, hi with
    | 0, _ => simp only [numB, List.set_cons_zero, List.getD_cons_zero, List.getD_cons_succ] at hne ⊢; omega
    | 1, _ => simp only [numB, List.set_cons_succ, List.set_cons_zero, List.getD_cons_zero, List.getD_cons_succ] at hne ⊢; omega
    | 2, _ => simp only [numB, List.set_cons_succ, List.set_cons_zero, List.getD_cons_zero, List.getD_cons_succ] at hne ⊢; omega
    | 3, _ => simp only [numB, List.set_cons_succ, List.set_cons_zero, List.getD_cons_zero, List.getD_cons_succ] at hne ⊢; omega

/-- A record with another byte, but of its length, is none. -/
theorem next_turned {r : Rec} (h : r.err = 0) {k : Nat} (hk : k < r.bytes.length) (h4 : 4 ≤ k) {y : UInt8} (hy : y ≠ r.bytes[k]) : nextB (r.bytes.set k y) = (.zero, 0, 5) := by
  have hbd := body_bd h
  have hpos := body_pos r
  obtain ⟨h1, h2, h3, h5⟩ := frame_parts r.body [] (by omega)
  simp only [List.append_nil, List.length_nil, Nat.add_zero] at h1 h2 h3 h5
  have hb : r.bytes = frameB r.body := rfl
  have hlen : (r.bytes.set k y).length = 8 + r.body.length := by rw [List.length_set, hb, h2]
  have hnum : numB (r.bytes.set k y) = r.body.length := by
    have := numB_take (l := r.bytes.set k y) (k := 4) (Nat.le_refl 4)
    rw [← this, List.take_set_of_le h4, numB_take (Nat.le_refl 4), hb, h1]
  have hfull : (r.bytes.set k y).take (8 + r.body.length) = r.bytes.set k y := List.take_of_length_le (by omega)
  have hfull' : (frameB r.body).take (8 + r.body.length) = frameB r.body := List.take_of_length_le (by omega)
  rw [hfull'] at h5
  unfold nextB
  rw [hnum, hlen, if_neg (by omega), if_neg (by omega), if_neg (by omega), if_pos]
  rw [hfull]
  rw [bytes_length] at hk
  by_cases h8 : k < 8
  · rw [List.drop_set_of_lt h8, hb, h5, ← h3, List.drop_set, if_neg (by omega)]
    have hd : ((frameB r.body).drop 4).getD (k - 4) 0 = r.bytes[k] := by
      rw [List.getD_eq_getElem?_getD, List.getElem?_drop, show 4 + (k - 4) = k from by omega, ← hb, List.getElem?_eq_getElem]; rfl
    have := numB_set_ne (l := (frameB r.body).drop 4) (i := k - 4) (by omega) (by rw [List.length_drop]; omega) (y := y) (by rw [hd]; exact hy)
    omega
  · rw [List.drop_set, if_neg (by omega), List.drop_set, if_neg (by omega)]
    have e4 : numB ((r.bytes.drop 4).set (k - 4) y) = numB (r.bytes.drop 4) := by
      have := numB_take (l := (r.bytes.drop 4).set (k - 4) y) (k := 4) (Nat.le_refl 4)
      rw [← this, List.take_set_of_le (by omega), numB_take (Nat.le_refl 4)]
    rw [e4, hb, h3, h5]
    have hi : k - 8 < r.body.length := by omega
    have hd : r.body[k - 8] = r.bytes[k] := by
      have : r.body[k - 8]? = r.bytes[k]? := by
        rw [← h5, List.getElem?_drop, show 8 + (k - 8) = k from by omega, ← hb]
      rw [List.getElem?_eq_getElem hi, List.getElem?_eq_getElem (by rw [bytes_length]; exact hk)] at this
      injection this
    exact (crcSum_set hi (by rw [hd]; exact hy)).symm

/-! ### the document's own reading -/
/-- the record that the document tries -/
def refRec (x : List UInt8) : Rec :=
  if x.getD 0 0 = 2 ∧ x.length = 5 then ⟨2, false, [], [], (numB (x.drop 1) : Nat)⟩
  else if x.getD 0 0 = 1 ∧ 6 ≤ x.length ∧ (x.getD 1 0).toNat < 2 then ⟨1, x.getD 1 0 = 1, (x.take (6 + numB (x.drop 2))).drop 6, x.drop (6 + numB (x.drop 2)), 0⟩
  else ⟨((x.getD 0 0).toNat : Int), false, [], [], 0⟩
theorem take_frame {b : List UInt8} (h : 8 + numB b ≤ b.length) (hc : (numB (b.drop 4) : Int) = crcSum ((b.take (8 + numB b)).drop 8)) : b.take (8 + numB b) = frameB ((b.take (8 + numB b)).drop 8) := by
  have hl : ((b.take (8 + numB b)).drop 8).length = numB b := by rw [List.length_drop, List.length_take]; omega
  unfold frameB
  rw [hl, ← hc, Int.toNat_natCast, four_numB (by omega), four_numB (by rw [List.length_drop]; omega)]
  have e1 : b.take (8 + numB b) = (b.take (8 + numB b)).take 4 ++ ((b.take (8 + numB b)).drop 4) := (List.take_append_drop _ _).symm
  have e2 : (b.take (8 + numB b)).drop 4 = ((b.take (8 + numB b)).drop 4).take 4 ++ ((b.take (8 + numB b)).drop 4).drop 4 := (List.take_append_drop _ _).symm
  rw [List.drop_drop] at e2
  conv => lhs; rw [e1, e2]
  rw [List.take_take, Nat.min_eq_left (by omega), ← List.append_assoc]
  congr 2
  rw [List.drop_take, List.take_take, Nat.min_eq_left (by omega)]
theorem frameB_inj {x y : List UInt8} (hx : x.length < 4294967296) (hy : y.length < 4294967296) (h : frameB x = frameB y) : x = y := by
  obtain ⟨h1, _, _, h4⟩ := frame_parts x [] hx
  obtain ⟨g1, _, _, g4⟩ := frame_parts y [] hy
  rw [h] at h1 h4
  have e : x.length = y.length := by rw [← h1, ← g1]
  rw [e] at h4
  exact h4.symm.trans g4
theorem getD_drop (l : List UInt8) (k j : Nat) : (l.drop k).getD j 0 = l.getD (k + j) 0 := by
  simp [List.getD_eq_getElem?_getD, List.getElem?_drop]
theorem cons_getD {l : List UInt8} {k : Nat} (h : k < l.length) : l.drop k = l.getD k 0 :: l.drop (k + 1) := by
  rw [List.drop_eq_getElem_cons h, List.getD_eq_getElem?_getD, List.getElem?_eq_getElem h]; rfl
theorem read_ref {x : List UInt8} {r : Rec} (h : readB x = some r) : refRec x = r ∧ r.err = 0 ∧ r.body = x := by
  unfold readB at h
  by_cases h2 : x.getD 0 0 = 2
  · rw [if_pos h2] at h
    by_cases hc : x.length ≠ 5 ∨ 2147483647 < numB (x.drop 1)
    · rw [if_pos hc] at h; cases h
    · rw [if_neg hc] at h
      injection h with h
      subst h
      have hl : x.length = 5 := by omega
      have hn : numB (x.drop 1) ≤ 2147483647 := by omega
      refine ⟨by unfold refRec; rw [if_pos ⟨h2, hl⟩], ?_, ?_⟩
      · unfold Rec.err; rw [if_pos (isEnd_two (by omega) (by omega))]
      · unfold Rec.body
        rw [if_pos (isEnd_two (by omega) (by omega))]
        have e : x = x.getD 0 0 :: x.drop 1 := by
          have := cons_getD (l := x) (k := 0) (by omega)
          simpa using this
        show 2 :: fourB ((numB (x.drop 1) : Nat) : Int).toNat = x
        rw [Int.toNat_natCast, four_numB (by rw [List.length_drop]; omega), List.take_of_length_le (by rw [List.length_drop]; omega)]
        conv => rhs; rw [e, h2]
  · rw [if_neg h2] at h
    by_cases h1 : x.getD 0 0 ≠ 1 ∨ x.length < 6 ∨ 1 < (x.getD 1 0).toNat
    · rw [if_pos h1] at h; cases h
    · rw [if_neg h1] at h
      by_cases hk : 65536 < numB (x.drop 2) ∨ x.length < numB (x.drop 2) + 6
      · rw [if_pos hk] at h; cases h
      · rw [if_neg hk] at h
        by_cases hv : (x.getD 1 0 = 1 ∧ 6 + numB (x.drop 2) < x.length) ∨ 16777216 + 6 + numB (x.drop 2) < x.length
        · rw [if_pos hv] at h; cases h
        · rw [if_neg hv] at h
          injection h with h
          subst h
          have e1 : x.getD 0 0 = 1 := Classical.byContradiction fun e => h1 (.inl e)
          have e2 : 6 ≤ x.length := by omega
          have e3 : (x.getD 1 0).toNat < 2 := by omega
          have hkl : ((x.take (6 + numB (x.drop 2))).drop 6).length = numB (x.drop 2) := by rw [List.length_drop, List.length_take]; omega
          have hvl : (x.drop (6 + numB (x.drop 2))).length = x.length - (6 + numB (x.drop 2)) := by rw [List.length_drop]
          refine ⟨?_, ?_, ?_⟩
          · unfold refRec
            rw [if_neg (fun e => h2 e.1), if_pos ⟨e1, e2, e3⟩]
          · refine err_fits isEnd_one rfl ?_
            simp only [hkl, hvl]
            omega
          · rw [body_change isEnd_one, hkl, four_numB (by rw [List.length_drop]; omega)]
            have hx : x = [x.getD 0 0, x.getD 1 0] ++ x.drop 2 := by
              have a := cons_getD (l := x) (k := 0) (by omega)
              have b := cons_getD (l := x) (k := 1) (by omega)
              simp only [List.drop_zero, Nat.zero_add] at a
              rw [b] at a
              exact a
            have hd : (if decide (x.getD 1 0 = 1) = true then (1 : UInt8) else 0) = x.getD 1 0 := by
              by_cases e : x.getD 1 0 = 1
              · rw [if_pos (by simpa using e), e]
              · rw [if_neg (by simpa using e)]
                refine UInt8.toNat_inj.1 ?_
                have : (x.getD 1 0).toNat ≠ 1 := fun e' => e (UInt8.toNat_inj.1 e')
                show 0 = _
                omega
            have hval : (if decide (x.getD 1 0 = 1) = true then [] else x.drop (6 + numB (x.drop 2))) = x.drop (6 + numB (x.drop 2)) := by
              by_cases e : x.getD 1 0 = 1
              · rw [if_pos (by simpa using e)]
                refine (List.drop_eq_nil_of_le ?_).symm
                have : ¬ 6 + numB (x.drop 2) < x.length := fun e' => hv (.inl ⟨e, e'⟩)
                omega
              · rw [if_neg (by simpa using e)]
            rw [hd, hval]
            generalize numB (x.drop 2) = k at *
            conv => rhs; rw [hx, e1]
            have a : x.drop 2 = (x.drop 2).take 4 ++ ((x.take (6 + k)).drop 6 ++ x.drop (6 + k)) := by
              have h6 : (x.take (6 + k)).drop 6 ++ x.drop (6 + k) = x.drop 6 := by
                rw [List.drop_take, show 6 + k - 6 = k from by omega, show 6 + k = 6 + k from rfl, ← List.drop_drop]
                exact List.take_append_drop _ _
              rw [h6]
              have := List.take_append_drop 4 (x.drop 2)
              rw [List.drop_drop] at this
              exact this.symm
            conv => rhs; rw [a]
            simp only [List.append_assoc]
theorem next_read {b : List UInt8} (h4 : 4 ≤ b.length) (hn : ¬ (numB b = 0 ∨ 16842758 < numB b)) (hl : 8 + numB b ≤ b.length) (hc : (numB (b.drop 4) : Int) = crcSum ((b.take (8 + numB b)).drop 8)) :
    nextB b = readT (readB ((b.take (8 + numB b)).drop 8)) (numB b) := by
  unfold nextB
  rw [if_neg (by omega), if_neg hn, if_neg (by omega), if_neg (by simpa using hc)]
/-- The document reads what is read here. -/
theorem ref_next {b : List UInt8} (h4 : 4 ≤ b.length) (hn : ¬ (numB b = 0 ∨ 16842758 < numB b)) (hl : 8 + numB b ≤ b.length) (hc : (numB (b.drop 4) : Int) = crcSum ((b.take (8 + numB b)).drop 8)) :
    ((refRec ((b.take (8 + numB b)).drop 8)).err = 0 ∧ (refRec ((b.take (8 + numB b)).drop 8)).bytes = b.take (8 + numB b) → nextB b = (refRec ((b.take (8 + numB b)).drop 8), 8 + numB b, 0)) ∧
    (¬ ((refRec ((b.take (8 + numB b)).drop 8)).err = 0 ∧ (refRec ((b.take (8 + numB b)).drop 8)).bytes = b.take (8 + numB b)) → nextB b = (.zero, 0, 4)) := by
  have hf := take_frame hl hc
  have hxl : ((b.take (8 + numB b)).drop 8).length = numB b := by rw [List.length_drop, List.length_take]; omega
  have hb : nextB b = readT (readB ((b.take (8 + numB b)).drop 8)) (numB b) := by
    unfold nextB
    rw [if_neg (by omega), if_neg hn, if_neg (by omega), if_neg (by simpa using hc)]
  generalize (b.take (8 + numB b)).drop 8 = x at *
  rw [hb, hf]
  cases hr : readB x with
  | some r =>
    obtain ⟨g1, g2, g3⟩ := read_ref hr
    have hbytes : r.bytes = frameB x := by unfold Rec.bytes; rw [g3]
    rw [g1]
    exact ⟨fun _ => rfl, fun h => absurd ⟨g2, hbytes⟩ h⟩
  | none =>
    refine ⟨fun ⟨e1, e2⟩ => ?_, fun _ => rfl⟩
    have hbd := body_bd e1
    have e3 : (refRec x).body = x := frameB_inj (by omega) (by omega) e2
    have := readB_body e1
    rw [e3, hr] at this
    cases this
end Go.Mun

-- CrcWalks
namespace Go.Mun
open Go Go.RowKit Go.Proofs

set_option maxHeartbeats 400000 in
theorem Crc_any (A : Option Addr) (n c : Nat) (l : List UInt8) (w : World) (hl : l.length = n) (hr : Rd w A (bv l)) (hn : n ≤ 4611686018427387904) :
    Calls Try.prog 71 #[.slice A n c] w fun e w' => e = .returned (.int .i64 (crcSum l)) ∧ w = w' := by
  go_enter Try.func71, Try.ntmps71
  go_wp2
  go_loop [3, 4] (fun s i => ∃ k : Nat, k ≤ n ∧ i = .int .i64 k ∧ s = .int .u32 ((crcRun 4294967295 (l.take k)).toNat : Int)) (fun _ i => n - (RowKit.intOf i).toNat)
  case atStart => exact ⟨0, Nat.zero_le _, rfl, by simp [crcRun]⟩
  case round =>
    obtain ⟨k, hk, rfl, rfl⟩ := hrel
    by_cases hlt : k < n
    · obtain ⟨ad, rfl, hcell⟩ := hr.byte (j := k) (by omega)
      have hstep := crcRun_take 4294967295 l (k := k) (by omega)
      generalize crcRun 4294967295 (l.take k) = s at hstep ⊢
      have HS := Lib.hid hstep; clear hstep
      generalize l[k] = x at hcell HS
      have hx := u32_xor_byte s x
      go_wp2
      go_loop [3, 5] (fun s' i => ∃ j : Nat, j ≤ 8 ∧ i = .int .i64 j ∧ s' = .int .u32 ((crcSteps j (s ^^^ x.toUInt32)).toNat : Int)) (fun _ i => 8 - (RowKit.intOf i).toNat)
      case atStart => exact ⟨0, Nat.zero_le _, rfl, rfl⟩
      case round =>
        obtain ⟨j, hj, rfl, rfl⟩ := hrel
        have hnext : crcSteps (j + 1) (s ^^^ x.toUInt32) = crcStep (crcSteps j (s ^^^ x.toUInt32)) := rfl
        have hdone : j = 8 → crcRun 4294967295 (l.take (k + 1)) = crcSteps j (s ^^^ x.toUInt32) := fun e => by rw [HS.out, e]; rfl
        generalize crcSteps j (s ^^^ x.toUInt32) = t at hnext hdone ⊢
        have HD := Lib.hid hdone; clear hdone
        by_cases hj8 : j < 8
        · have ho := @crcStep_odd t
          have he := @crcStep_even t
          go_wp2
          · go_round
            case rel => exact ⟨j + 1, by omega, by go_num, by rw [hnext]⟩
            case measure => simp [RowKit.intOf]; omega
          · go_round
            case rel => exact ⟨j + 1, by omega, by go_num, by rw [he ‹_›, hnext]⟩
            case measure => simp [RowKit.intOf]; omega
        · obtain rfl : j = 8 := by omega
          go_wp2
          go_round
          case rel => exact ⟨k + 1, by omega, by go_num, by rw [HD.out rfl]⟩
          case measure => simp [RowKit.intOf]; omega
    · obtain rfl : k = n := by omega
      have hw := crcSum_wrap (l.take k)
      rw [show l.take k = l from List.take_of_length_le (by omega)] at hw ⊢
      have HW := Lib.hid hw; clear hw
      go_wp2
      go_ret
      exact ⟨ret_i HW.out, rfl⟩

set_option maxHeartbeats 400000 in
theorem Sum_any (A : Option Addr) (n c : Nat) (ls : List (List UInt8)) (vs : List Value) (w : World) (hl : ls.length = n) (hvl : vs.length = n) (hn : n ≤ 4611686018427387904)
    (hr : Rd w A vs) (hb : ∀ i (h : i < n), Bytes w (vs[i]) ls[i]) :
    Calls Try.prog 58 #[.slice A n c] w fun e w' => e = .returned (.int .i64 (crcSum ls.flatten)) ∧ w = w' := by
  go_enter Try.func58, Try.ntmps58
  go_wp2
  go_loop [3, 10] (fun s i => ∃ k : Nat, k ≤ n ∧ i = .int .i64 k ∧ s = .int .u32 ((crcRun 4294967295 (ls.take k).flatten).toNat : Int)) (fun _ i => n - (RowKit.intOf i).toNat)
  case atStart => exact ⟨0, Nat.zero_le _, rfl, by simp [crcRun]⟩
  case round =>
    obtain ⟨k, hk, rfl, rfl⟩ := hrel
    by_cases hlt : k < n
    · obtain ⟨ad, rfl, hcell⟩ := hr.at_ (j := k) (by omega)
      obtain ⟨B, m, c', hv, hm1, hm2, hm3, hm4⟩ := hb k hlt
      rw [hv] at hcell
      have hstep : crcRun 4294967295 (ls.take (k + 1)).flatten = crcRun (crcRun 4294967295 (ls.take k).flatten) ls[k] := by
        rw [take_snoc ls (by omega), List.flatten_append, crcRun_append]; simp
      generalize crcRun 4294967295 (ls.take k).flatten = s0 at hstep ⊢
      have HS := Lib.hid hstep; clear hstep
      generalize ls[k] = l at hm1 hm4 HS
      clear hv hb hr
      unfold maxLen at hm3
      go_wp2
      go_loop [3, 16] (fun s i => ∃ k : Nat, k ≤ m ∧ i = .int .i64 k ∧ s = .int .u32 ((crcRun s0 (l.take k)).toNat : Int)) (fun _ i => m - (RowKit.intOf i).toNat)
      case atStart => exact ⟨0, Nat.zero_le _, rfl, by simp [crcRun]⟩
      case round =>
        obtain ⟨k', hk', rfl, rfl⟩ := hrel
        by_cases hlt' : k' < m
        · obtain ⟨bd, rfl, hcell'⟩ := hm4.byte (j := k') (by omega)
          have hstep := crcRun_take s0 l (k := k') (by omega)
          generalize crcRun s0 (l.take k') = s at hstep ⊢
          have HS' := Lib.hid hstep; clear hstep
          generalize l[k'] = x at hcell' HS'
          have hx := u32_xor_byte s x
          clear hcell HS
          go_wp2
          go_loop [3, 24] (fun s' i => ∃ j : Nat, j ≤ 8 ∧ i = .int .i64 j ∧ s' = .int .u32 ((crcSteps j (s ^^^ x.toUInt32)).toNat : Int)) (fun _ i => 8 - (RowKit.intOf i).toNat)
          case atStart => exact ⟨0, Nat.zero_le _, rfl, rfl⟩
          case round =>
            obtain ⟨j, hj, rfl, rfl⟩ := hrel
            have hnext : crcSteps (j + 1) (s ^^^ x.toUInt32) = crcStep (crcSteps j (s ^^^ x.toUInt32)) := rfl
            have hdone : j = 8 → crcRun s0 (l.take (k' + 1)) = crcSteps j (s ^^^ x.toUInt32) := fun e => by rw [HS'.out, e]; rfl
            generalize crcSteps j (s ^^^ x.toUInt32) = t at hnext hdone ⊢
            have HD := Lib.hid hdone; clear hdone
            by_cases hj8 : j < 8
            · have ho := crcStep_mul t
              clear hx hcell'
              go_wp2
              go_round
              case rel => exact ⟨j + 1, by omega, by go_num, by rw [hnext]⟩
              case measure => simp [RowKit.intOf]; omega
            · obtain rfl : j = 8 := by omega
              go_wp2
              go_round
              case rel => exact ⟨k' + 1, by omega, by go_num, by rw [HD.out rfl]⟩
              case measure => simp [RowKit.intOf]; omega
        · obtain rfl : k' = m := by omega
          have hfull : l.take k' = l := List.take_of_length_le (by omega)
          go_wp2
          go_round
          case rel => exact ⟨k + 1, by omega, by go_num, by rw [HS.out, hfull]⟩
          case measure => simp [RowKit.intOf]; omega
    · obtain rfl : k = n := by omega
      have hw := crcSum_wrap (ls.take k).flatten
      rw [show ls.take k = ls from List.take_of_length_le (by omega)] at hw ⊢
      have HW := Lib.hid hw; clear hw
      go_wp2
      go_ret
      exact ⟨ret_i HW.out, rfl⟩
end Go.Mun

-- RecWalks
namespace Go.Mun
open Go Go.RowKit Go.Proofs

theorem bytesTyR : SliceTy Try.prog 22 5 (.int .u8 0) 1 1 := SliceTy.mk' Try.underlying22 (by kernel_rfl) rfl (by omega)

set_option maxHeartbeats 400000 in
theorem four_any (n : Int) (k : Nat) (w : World) (hn : n = k) (h : k < 4294967296) :
    Calls Try.prog 61 #[.int .i64 n] w fun e w' => ∃ v, e = .returned v ∧ w'.ownsRow w.heap.size 5 1 v 4 (bv (fourB k)) ∧ Below w.heap.size w w' := by
  subst hn
  have hc : bv (fourB k) = #[Value.int .u8 ((k : Int) / 16777216), .int .u8 ((k : Int) / 65536 % 256), .int .u8 ((k : Int) / 256 % 256), .int .u8 ((k : Int) % 256)].toList := by
    rw [fourB_cells]
    have e : ((k / 16777216 : Nat) : Int) % 256 = (k : Int) / 16777216 := by omega
    rw [e]
    rfl
  have HC := Lib.hid hc
  clear hc
  go_enter Try.func61, Try.ntmps61
  go_wp2
  go_ret
  exact ⟨_, rfl, by rw [HC.out]; exact own_new w _ _ rfl (by simp [maxLen]), (Below.refl _ _).alloc (Nat.le_refl _) _⟩

theorem err_end (del : Bool) (key value : List UInt8) (n : Int) (h0 : 0 ≤ n) (h1 : n ≤ 2147483647) : Rec.err ⟨2, del, key, value, n⟩ = 0 := by
  have : Rec.isEnd ⟨2, del, key, value, n⟩ = true := by unfold Rec.isEnd; exact decide_eq_true ⟨rfl, h0, h1⟩
  unfold Rec.err
  rw [if_pos this]
theorem body_end (del : Bool) (key value : List UInt8) (n : Int) (h0 : 0 ≤ n) (h1 : n ≤ 2147483647) : Rec.body ⟨2, del, key, value, n⟩ = 2 :: fourB n.toNat := by
  have : Rec.isEnd ⟨2, del, key, value, n⟩ = true := by unfold Rec.isEnd; exact decide_eq_true ⟨rfl, h0, h1⟩
  unfold Rec.body
  rw [if_pos this]

set_option maxRecDepth 100000 in
set_option maxHeartbeats 1000000 in
theorem body_any (r : Rec) (kv vv : Value) (w : World) (hk : Bytes w kv r.key) (hv : Bytes w vv r.value) (hn1 : -9223372036854775808 ≤ r.n) (hn2 : r.n ≤ 9223372036854775807) :
    Calls Try.prog 60 #[.agg #[.int .i64 r.kind, .bool r.del, kv, vv, .int .i64 r.n]] w fun e w' => Below w.heap.size w w' ∧
      ((r.err ≠ 0 ∧ e = .returned (.tuple #[.slice none 0 0, .int .i64 r.err])) ∨
        (r.err = 0 ∧ ∃ v, e = .returned (.tuple #[v, .int .i64 0]) ∧ w'.ownsRow w.heap.size 5 1 v r.body.length (bv r.body))) := by
  obtain ⟨kind, del, key, value, n⟩ := r
  obtain ⟨A, m, c, rfl, k1, k2, k3, k4⟩ := hk
  obtain ⟨B, m', c', rfl, v1, v2, v3, v4⟩ := hv
  simp only at *
  have hT := bytesTyR
  unfold maxLen at k3 v3
  have hB0 : Below w.heap.size w (w.alloc (.cells #[.int .i64 kind, .bool del, .slice A m c, .slice B m' c', .int .i64 n] 97)) := (Below.refl _ _).alloc (Nat.le_refl _) _
  by_cases e1 : kind = 2 ∧ 0 ≤ n ∧ n ≤ 2147483647
  · obtain ⟨rfl, e2, e3⟩ := e1
    obtain ⟨j, rfl⟩ := Int.eq_ofNat_of_zero_le e2
    go_enter Try.func60, Try.ntmps60
    go_wp2_with fail
    refine (four_any _ j _ rfl (by omega)).mono ?_
    rintro e w2 ⟨v2, rfl, ho2, hb2⟩
    have hB2 := below_step (hB0.alloc hB0.size _) hb2
    have ho1 := own_ext (own_new_at (w := w.alloc (.cells #[.int .i64 2, .bool del, .slice A m c, .slice B m' c', .int .i64 (j : Int)] 97)) (base := w.heap.size) (g := w.heap.size + 1) (by simp) (by simp) 5 #[.int .u8 2] (n := 1) rfl (by simp [maxLen]) (xs := bv [2]) rfl) hb2
    have hy2 := Bytes.own ho2
    go_wp2_with (at_builtin; go_must (refine wpList_append_bytes rfl (.tmp 19) (.tmp 22) _ rfl w.heap.size hT (xs := [2]) rfl ho1 rfl hy2 (by rw [fourB_length]; omega) hB2.size ?_); intro v3 w3 ho3 hg3 hat3)
    have hB3 := below_own hB2 ho1 (Nat.le_refl _) hg3 hB2.size
    go_ret2
    exact ⟨hB3, .inr ⟨err_end _ _ _ _ e2 e3, _, rfl, by rw [body_end _ _ _ _ e2 e3]; exact ho3⟩⟩
  · have hend : Rec.isEnd ⟨kind, del, key, value, n⟩ = false := by unfold Rec.isEnd; exact decide_eq_false e1
    by_cases hk1 : kind = 1
    · subst hk1
      by_cases c1 : 65536 < m
      · have herr : Rec.err ⟨1, del, key, value, n⟩ = 3 := err_long hend rfl (.inl (by simp only; omega))
        have HE := Lib.hid herr
        clear herr
        have d1 : decide ((65536 : Int) < m) = true := by simp; omega
        go_enter Try.func60, Try.ntmps60
        go_wp2
        go_ret2
        exact ⟨hB0, .inl ⟨by rw [HE.out]; omega, ret_e HE.out⟩⟩
      · have d1 : decide ((65536 : Int) < m) = false := by simp; omega
        by_cases c2 : del = false ∧ 16777216 < m'
        · obtain ⟨rfl, c2⟩ := c2
          have herr : Rec.err ⟨1, false, key, value, n⟩ = 3 := err_long hend rfl (.inr ⟨rfl, by simp only; omega⟩)
          have HE := Lib.hid herr
          clear herr
          have d2 : decide ((16777216 : Int) < m') = true := by simp; omega
          go_enter Try.func60, Try.ntmps60
          go_wp2
          go_ret2
          exact ⟨hB0, .inl ⟨by rw [HE.out]; omega, ret_e HE.out⟩⟩
        · have herr : Rec.err ⟨1, del, key, value, n⟩ = 0 := err_fits hend rfl (by simp only; rw [k1, v1]; rintro (h | h); exact c1 h; exact c2 h)
          have HE := Lib.hid herr
          clear herr
          have hy4 : Bytes w (.slice A m c) key := ⟨A, m, c, rfl, k1, k2, by unfold maxLen; exact k3, k4⟩
          have hv4 : Bytes w (.slice B m' c') value := ⟨B, m', c', rfl, v1, v2, by unfold maxLen; exact v3, v4⟩
          cases del
          · have HBd : Hid (Rec.body ⟨1, false, key, value, n⟩ = [1, 0] ++ fourB key.length ++ key ++ value) := body_set hend
            have d2 : decide ((16777216 : Int) < m') = false := by simp at c2 ⊢; omega
            have hm' : m' ≤ 16777216 := by simp at c2; omega
            go_enter Try.func60, Try.ntmps60
            go_wp2_with fail
            refine (four_any _ m _ rfl (by omega)).mono ?_
            rintro e w2 ⟨v2, rfl, ho2, hb2⟩
            have hB2 := below_step (hB0.alloc hB0.size _) hb2
            have hx2 : Blk w2 w.heap.size 97 #[.int .i64 1, .bool false, .slice A m c, .slice B m' c', .int .i64 n] := ((Blk.new _ _ _).alloc _).ext hb2
            have ho1 := own_ext (own_new_at (w := w.alloc (.cells #[.int .i64 1, .bool false, .slice A m c, .slice B m' c', .int .i64 n] 97)) (base := w.heap.size + 1) (g := w.heap.size + 1) (by simp) (by simp) 5 #[.int .u8 1, .int .u8 0] (n := 2) rfl (by simp [maxLen]) (xs := bv [1, 0]) rfl) hb2
            have hs2 : w.heap.size + 1 ≤ w2.heap.size := by have := hb2.size; simp at this; omega
            have hy2 := Bytes.own ho2
            have tok1 : True := trivial
            have tok2 : True := trivial
            have hc2 := hx2.cellv (i := 2) rfl
            go_wp2_with (first
              | (at_builtin; have _t := tok1; refine wpList_append_bytes rfl (.tmp 47) (.tmp 52) _ rfl (w.heap.size + 1) hT (xs := [1, 0]) rfl ho1 rfl hy2 (by rw [fourB_length]; omega) hs2 ?_; clear tok1; intro v3 w3 ho3 hg3 hat3; have hn3 := own_far hx2.lt ho1 (by omega : w.heap.size < w.heap.size + 1); have hx3 := hx2.grown hg3 hn3; have hs3 := Nat.le_trans hs2 hg3.size; have hB3 := below_own hB2 (own_base ho1 (Nat.le_succ _)) (Nat.le_refl _) hg3 hB2.size; have hc2' := hx3.cellv (i := 2) rfl; clear hc2)
              | (at_builtin; have _t := tok2; refine wpList_append_bytes rfl (.tmp 54) (.tmp 57) _ rfl (w.heap.size + 1) hT (xs := [1, 0] ++ fourB m) rfl ho3 rfl (hy4.ext hB3) (by rw [fourB_length]; omega) hs3 ?_; clear tok2; intro v5 w5 ho5 hg5 hat5; have hn5 := own_far hx3.lt ho3 (by omega : w.heap.size < w.heap.size + 1); have hx5 := hx3.grown hg5 hn5; have hs5 := Nat.le_trans hs3 hg5.size; have hB5 := below_own hB3 (own_base ho3 (Nat.le_succ _)) (Nat.le_refl _) hg5 hB3.size; have hc1 := hx5.cellv (i := 1) rfl; have hc3 := hx5.cellv (i := 3) rfl; clear hc2')
              | (at_builtin; refine wpList_append_bytes rfl (.tmp 65) (.tmp 68) _ rfl (w.heap.size + 1) hT rfl ho5 rfl (hv4.ext hB5) (by rw [fourB_length]; omega) hs5 ?_; intro v6 w6 ho6 hg6 hat6; have hB6 := below_own hB5 (own_base ho5 (Nat.le_succ _)) (Nat.le_refl _) hg6 hB5.size))
            go_ret2
            refine ⟨hB6, .inr ⟨HE.out, v6, rfl, ?_⟩⟩
            rw [HBd.out]
            have := own_base ho6 (Nat.le_succ w.heap.size)
            rw [← k1] at this
            have e : 2 + (fourB key.length).length + key.length + value.length = ([1, 0] ++ fourB key.length ++ key ++ value).length := by simp [fourB_length]; omega
            rw [← e]
            exact this
          · have HBd : Hid (Rec.body ⟨1, true, key, value, n⟩ = [1, 1] ++ fourB key.length ++ key) := body_del hend
            clear c2
            go_enter Try.func60, Try.ntmps60
            go_wp2_with fail
            refine (four_any _ m _ rfl (by omega)).mono ?_
            rintro e w2 ⟨v2, rfl, ho2, hb2⟩
            have hB2 := below_step (hB0.alloc hB0.size _) hb2
            have hx2 : Blk w2 w.heap.size 97 #[.int .i64 1, .bool true, .slice A m c, .slice B m' c', .int .i64 n] := ((Blk.new _ _ _).alloc _).ext hb2
            have ho1 := own_ext (own_new_at (w := w.alloc (.cells #[.int .i64 1, .bool true, .slice A m c, .slice B m' c', .int .i64 n] 97)) (base := w.heap.size + 1) (g := w.heap.size + 1) (by simp) (by simp) 5 #[.int .u8 1, .int .u8 0] (n := 2) rfl (by simp [maxLen]) (xs := bv [1, 0]) rfl) hb2
            have hs2 : w.heap.size + 1 ≤ w2.heap.size := by have := hb2.size; simp at this; omega
            have hy2 := Bytes.own ho2
            have tok1 : True := trivial
            have tok2 : True := trivial
            have hc2 := hx2.cellv (i := 2) rfl
            go_wp2_with (first
              | (at_builtin; have _t := tok1; refine wpList_append_bytes rfl (.tmp 47) (.tmp 52) _ rfl (w.heap.size + 1) hT (xs := [1, 0]) rfl ho1 rfl hy2 (by rw [fourB_length]; omega) hs2 ?_; clear tok1; intro v3 w3 ho3 hg3 hat3; have hn3 := own_far hx2.lt ho1 (by omega : w.heap.size < w.heap.size + 1); have hx3 := hx2.grown hg3 hn3; have hs3 := Nat.le_trans hs2 hg3.size; have hB3 := below_own hB2 (own_base ho1 (Nat.le_succ _)) (Nat.le_refl _) hg3 hB2.size; have hc2' := hx3.cellv (i := 2) rfl; clear hc2)
              | (at_builtin; have _t := tok2; refine wpList_append_bytes rfl (.tmp 54) (.tmp 57) _ rfl (w.heap.size + 1) hT (xs := [1, 0] ++ fourB m) rfl ho3 rfl (hy4.ext hB3) (by rw [fourB_length]; omega) hs3 ?_; clear tok2; intro v5 w5 ho5 hg5 hat5; have hn5 := own_far hx3.lt ho3 (by omega : w.heap.size < w.heap.size + 1); have hx5 := hx3.grown hg5 hn5; have hs5 := Nat.le_trans hs3 hg5.size; have hB5 := below_own hB3 (own_base ho3 (Nat.le_succ _)) (Nat.le_refl _) hg5 hB3.size; have hc1 := hx5.cellv (i := 1) rfl; clear hc2'; obtain ⟨g5, cap5, rfl, hg51, hg52⟩ := ho5.form (by omega); have hc5 : w5.cell? ⟨g5, 1, none⟩ = some (.int .u8 0) := (by rw [ho5.cellAt 1 (by omega)]; simp [bv]); have hf5 := ho5.frozenAt 1; have hst := ho5.stored 1 (.int .u8 1); have HST := Lib.hid hst; clear hst)
              | (at_builtin; fail))
            go_ret2
            refine ⟨hB5.setCell (by simp; omega) _, .inr ⟨HE.out, _, rfl, ?_⟩⟩
            rw [HBd.out]
            have := own_base HST.out.1 (Nat.le_succ w.heap.size)
            have e : (bv ([1, 0] ++ fourB m ++ key)).set 1 (.int .u8 1) = bv ([1, 1] ++ fourB m ++ key) := by simp [bv]
            have e2 : ([1, 1] ++ fourB m ++ key).length = 2 + (fourB m).length + m := by simp [fourB_length]; omega
            rw [e, k1] at this
            rw [k1, e2]
            exact this
    · have herr : Rec.err ⟨kind, del, key, value, n⟩ = 1 := err_kind hend hk1
      have HE := Lib.hid herr
      clear herr
      have hk1' : (kind != 1) = true := by simpa using hk1
      by_cases hk2 : kind = 2
      · subst hk2
        by_cases hn0 : n < 0
        · have d1 : decide (0 ≤ n) = false := by simp; omega
          go_enter Try.func60, Try.ntmps60
          go_wp2
          go_ret2
          exact ⟨hB0, .inl ⟨by rw [HE.out]; omega, ret_e HE.out⟩⟩
        · have d1 : decide (0 ≤ n) = true := by simp; omega
          have d2 : decide (n ≤ 2147483647) = false := by simp; omega
          go_enter Try.func60, Try.ntmps60
          go_wp2
          go_ret2
          exact ⟨hB0, .inl ⟨by rw [HE.out]; omega, ret_e HE.out⟩⟩
      · have hk2' : (kind == 2) = false := by simpa using hk2
        go_enter Try.func60, Try.ntmps60
        go_wp2
        go_ret2
        exact ⟨hB0, .inl ⟨by rw [HE.out]; omega, ret_e HE.out⟩⟩

set_option maxRecDepth 100000 in
set_option maxHeartbeats 1000000 in
theorem Pack_any (r : Rec) (kv vv : Value) (w : World) (hk : Bytes w kv r.key) (hv : Bytes w vv r.value) (hn1 : -9223372036854775808 ≤ r.n) (hn2 : r.n ≤ 9223372036854775807) :
    Calls Try.prog 47 #[.agg #[.int .i64 r.kind, .bool r.del, kv, vv, .int .i64 r.n]] w fun e w' => Below w.heap.size w w' ∧
      ((r.err ≠ 0 ∧ e = .returned (.tuple #[.slice none 0 0, .int .i64 r.err])) ∨
        (r.err = 0 ∧ ∃ v, e = .returned (.tuple #[v, .int .i64 0]) ∧ w'.ownsRow w.heap.size 5 1 v r.bytes.length (bv r.bytes))) := by
  have hT := bytesTyR
  have HN := Lib.hid (And.intro hn1 hn2)
  have hB0 : Below w.heap.size w (w.alloc (.cells #[.int .i64 r.kind, .bool r.del, kv, vv, .int .i64 r.n] 97)) := (Below.refl _ _).alloc (Nat.le_refl _) _
  clear hn1 hn2
  by_cases he : r.err = 0
  · have hbd := body_bd he
    have HL := Lib.hid hbd
    have HE := Lib.hid he
    clear he hbd
    have tok1 : True := trivial
    have tok2 : True := trivial
    go_enter Try.func47, Try.ntmps47
    go_wp2_with fail
    refine (body_any r kv vv _ (hk.ext hB0) (hv.ext hB0) HN.out.1 HN.out.2).mono ?_
    rintro e w2 ⟨hb2, ⟨h0, _⟩ | ⟨_, v2, rfl, ho2⟩⟩
    · exact absurd HE.out h0
    · have hB2 := below_step hB0 hb2
      have hy2 := Bytes.own ho2
      generalize hbody : r.body = b at *
      have HBody := Lib.hid hbody
      clear hbody
      obtain ⟨A2, n2, c2, rfl, y1, y2, y3, y4⟩ := hy2
      have hy2 : Bytes w2 (.slice A2 n2 c2) b := ⟨A2, n2, c2, rfl, y1, y2, y3, y4⟩
      have hn2 : n2 ≤ 16842758 := by have := HL.out; omega
      go_wp2_with fail
      refine (four_any _ n2 _ rfl (by omega)).mono ?_
      rintro e w3 ⟨v3, rfl, ho3, hb3⟩
      have hB3 := below_step hB2 hb3
      go_wp2_with fail
      refine (Sum_any _ 1 1 [b] [.slice A2 n2 c2] _ rfl rfl (by omega) (Rd.new _ #[_] _ _) fun i hi => ?_).mono ?_
      · obtain rfl : i = 0 := by omega
        exact (hy2.ext hb3).ext ((Below.refl _ _).alloc (Nat.le_refl _) _)
      rintro e w4 ⟨rfl, rfl⟩
      have hcs := crcSum_bd b
      have hfl : ([b] : List (List UInt8)).flatten = b := by simp
      rw [hfl]
      go_wp2_with fail
      refine (four_any _ (crcSum b).toNat _ (by omega) (by omega)).mono ?_
      rintro e w5 ⟨v5, rfl, ho5, hb5⟩
      have hB4 := hB3.alloc hB3.size (.cells #[.slice A2 n2 c2] 22)
      have hB5 := below_step hB4 hb5
      have ho3' := own_ext (own_base (ho3.alloc (.cells #[.slice A2 n2 c2] 22)) hB2.size) hb5
      have hy5 := Bytes.own ho5
      have hyb := ((hy2.ext hb3).ext ((Below.refl _ _).alloc (Nat.le_refl _) (.cells #[.slice A2 n2 c2] 22))).ext hb5
      have hne : ∀ ad, A2 = some ad → some ad.block ≠ v3.ownBlock := fun ad e e' => by
        subst e
        have h1 := (ho2.lt ad.block rfl).2
        have h2 := (ho3.lt _ e'.symm).1
        omega
      go_wp2_with (first
        | (at_builtin; have _t := tok1; go_must (refine wpList_append_bytes rfl (.tmp 16) (.tmp 20) _ rfl w.heap.size hT rfl ho3' rfl hy5 (by rw [fourB_length]; omega) hB5.size ?_); clear tok1; intro v6 w6 ho6 hg6 hat6; have hB6 := below_own hB5 ho3' (Nat.le_refl _) hg6 hB5.size; have hyb6 := hyb.grownB hg6 hne)
        | (at_builtin; have _t := tok2; refine wpList_append_bytes rfl (.tmp 21) (.tmp 22) _ rfl w.heap.size hT rfl ho6 rfl hyb6 (by simp only [fourB_length]; omega) hB6.size ?_; clear tok2; intro v7 w7 ho7 hg7 hat7; have hB7 := below_own hB6 ho6 (Nat.le_refl _) hg7 hB6.size))
      go_ret2
      refine ⟨hB7, .inr ⟨HE.out, v7, rfl, ?_⟩⟩
      unfold Rec.bytes frameB
      rw [HBody.out, y1]
      have e : (fourB n2 ++ fourB (crcSum b).toNat ++ b).length = 4 + (fourB (crcSum b).toNat).length + b.length := by simp only [List.length_append, fourB_length]
      rw [e]
      exact ho7
  · have he' : (r.err != 0) = true := by simpa using he
    have HE := Lib.hid he
    clear he
    go_enter Try.func47, Try.ntmps47
    go_wp2_with fail
    refine (body_any r kv vv _ (hk.ext hB0) (hv.ext hB0) HN.out.1 HN.out.2).mono ?_
    rintro e w2 ⟨hb2, ⟨_, rfl⟩ | ⟨h0, _⟩⟩
    · go_wp2
      go_ret2
      exact ⟨below_step hB0 hb2, .inl ⟨HE.out, rfl⟩⟩
    · exact absurd h0 HE.out
end Go.Mun

-- RecAlive
namespace Go.Mun
open Go Go.RowKit Go.Proofs

/-- a row of the call's own, as a slice value of its length -/
theorem own_slice {w : World} {base : Nat} {e : TypeId} {n : Nat} {v : Value} {l : List UInt8} (h : w.ownsRow base e 1 v n (bv l)) : ∃ A c, v = .slice A n c ∧ l.length = n ∧ Bytes w (.slice A n c) l := by
  obtain ⟨A, m, c, rfl, h1, h2⟩ := Bytes.own h
  have hn : l.length = n := by have := h.1; rw [bv_length] at this; omega
  obtain rfl : m = n := by omega
  exact ⟨A, c, rfl, hn, A, m, c, rfl, h1, h2⟩

end Go.Mun

-- Bits
namespace Go.Mun
open Go Go.RowKit

theorem ofInt_i64 (a : Nat) (ha : a < 18446744073709551616) : (BitVec.ofInt 64 (a : Int)).toNat = a := by
  rw [BitVec.ofInt_natCast, BitVec.toNat_ofNat]; exact Nat.mod_eq_of_lt (by omega)
theorem i64_wrap_nat (a : Nat) (ha : a < 9223372036854775808) : IntKind.i64.wrap (a : Int) = a := IntWalk.i64_in _ (by omega)
theorem i64_or_nat (a b : Nat) (ha : a < 9223372036854775808) (hb : b < 9223372036854775808) : bits .or .i64 (a : Int) (b : Int) = ((a ||| b : Nat) : Int) := by
  have hx : a ||| b < 2 ^ 63 := Nat.or_lt_two_pow (by omega) (by omega)
  show IntKind.i64.wrap ((BitVec.ofInt 64 (a : Int) ||| BitVec.ofInt 64 (b : Int)).toNat : Int) = _
  rw [BitVec.toNat_or, ofInt_i64 a (by omega), ofInt_i64 b (by omega), i64_wrap_nat _ (by omega)]
theorem i64_and_nat (a b : Nat) (ha : a < 9223372036854775808) (hb : b < 9223372036854775808) : bits .and .i64 (a : Int) (b : Int) = ((a &&& b : Nat) : Int) := by
  have hx : a &&& b < 2 ^ 63 := Nat.and_lt_two_pow _ (by omega)
  show IntKind.i64.wrap ((BitVec.ofInt 64 (a : Int) &&& BitVec.ofInt 64 (b : Int)).toNat : Int) = _
  rw [BitVec.toNat_and, ofInt_i64 a (by omega), ofInt_i64 b (by omega), i64_wrap_nat _ (by omega)]
/-- and with a row of ones, whatever the sign -/
theorem i64_and_mask (n : Int) (k m : Nat) (hk : k < 63) (hm : m = 2 ^ k - 1) : bits .and .i64 n (m : Int) = n % ((2 ^ k : Nat) : Int) := by
  have hp : (2 : Nat) ^ k ≤ 2 ^ 62 := Nat.pow_le_pow_right (by omega) (by omega)
  have hp0 : 0 < (2 : Nat) ^ k := Nat.pow_pos (by omega)
  have hmb : m < 18446744073709551616 := by omega
  show IntKind.i64.wrap ((BitVec.ofInt 64 n &&& BitVec.ofInt 64 (m : Int)).toNat : Int) = _
  rw [BitVec.toNat_and, ofInt_i64 m hmb, hm, Nat.and_two_pow_sub_one_eq_mod, BitVec.toNat_ofInt]
  have hlt : (n % ((2 ^ 64 : Nat) : Int)).toNat % 2 ^ k < 2 ^ k := Nat.mod_lt _ hp0
  rw [i64_wrap_nat _ (by omega)]
  have h0 : 0 ≤ n % ((2 ^ 64 : Nat) : Int) := Int.emod_nonneg _ (by decide)
  rw [Int.natCast_emod, Int.toNat_of_nonneg h0]
  rw [Int.emod_emod_of_dvd]
  exact Int.natCast_dvd_natCast.2 (Nat.pow_dvd_pow 2 (by omega))
/-- what stands side by side -/
theorem or_side (a b k : Nat) (hb : b < 2 ^ k) : a * 2 ^ k ||| b = a * 2 ^ k + b := by
  rw [← Nat.shiftLeft_eq, Nat.shiftLeft_add_eq_or_of_lt hb]
end Go.Mun

-- RecRead
namespace Go.Mun
open Go Go.RowKit Go.Proofs

theorem add_zero' (a : Addr) : a.add 0 = a := rfl
theorem or4_nat (a b c d : Nat) (hb : b < 256) (hc : c < 256) (hd : d < 256) : (a * 16777216 ||| b * 65536 ||| c * 256 ||| d) = a * 16777216 + b * 65536 + c * 256 + d := by
  have h1 := or_side a (b * 65536) 24 (by omega)
  have h2 := or_side (a * 256 + b) (c * 256) 16 (by omega)
  have h3 := or_side (a * 65536 + b * 256 + c) d 8 (by omega)
  rw [show a * 2 ^ 24 = a * 16777216 from rfl] at h1
  rw [h1, show a * 16777216 + b * 65536 = (a * 256 + b) * 2 ^ 16 from by omega, h2, show (a * 256 + b) * 2 ^ 16 + c * 256 = (a * 65536 + b * 256 + c) * 2 ^ 8 from by omega, h3]
theorem or4_u32 (a b c d : Nat) (ha : a < 256) (hb : b < 256) (hc : c < 256) (hd : d < 256) :
    wrap64 (bits .or .u32 (bits .or .u32 (bits .or .u32 ((a : Int) * 16777216) ((b : Int) * 65536)) ((c : Int) * 256)) (d : Int)) =
      ((a * 16777216 + b * 65536 + c * 256 + d : Nat) : Int) := by
  rw [show (a : Int) * 16777216 = ((a * 16777216 : Nat) : Int) from by omega, show (b : Int) * 65536 = ((b * 65536 : Nat) : Int) from by omega, show (c : Int) * 256 = ((c * 256 : Nat) : Int) from by omega]
  have e1 : (a * 16777216 ||| b * 65536) < 2 ^ 32 := Nat.or_lt_two_pow (by omega) (by omega)
  have e2 : (a * 16777216 ||| b * 65536 ||| c * 256) < 2 ^ 32 := Nat.or_lt_two_pow e1 (by omega)
  rw [u32_or_nat _ _ (by omega) (by omega), u32_or_nat _ _ (by omega) (by omega), u32_or_nat _ _ (by omega) (by omega), or4_nat a b c d hb hc hd]
  exact IntWalk.wrap64_in _ (by omega)
theorem numB_get {l : List UInt8} (h : 4 ≤ l.length) : numB l = l[0].toNat * 16777216 + l[1].toNat * 65536 + l[2].toNat * 256 + l[3].toNat := by
  unfold numB
  simp [List.getD_eq_getElem?_getD, List.getElem?_eq_getElem (show 0 < l.length by omega), List.getElem?_eq_getElem (show 1 < l.length by omega), List.getElem?_eq_getElem (show 2 < l.length by omega), List.getElem?_eq_getElem (show 3 < l.length by omega)]

set_option maxRecDepth 100000 in
set_option maxHeartbeats 400000 in
theorem number_any (A : Option Addr) (n c : Nat) (l : List UInt8) (w : World) (hl : l.length = n) (hr : Rd w A (bv l)) (hn : 4 ≤ n) :
    Calls Try.prog 57 #[.slice A n c] w fun e w' => e = .returned (.int .i64 (numB l : Nat)) ∧ ∃ k, w' = w.drewN k := by
  obtain ⟨ad, rfl, h0⟩ := hr.byte (j := 0) (by omega)
  obtain ⟨_, e, h1⟩ := hr.byte (j := 1) (by omega); cases e
  obtain ⟨_, e, h2⟩ := hr.byte (j := 2) (by omega); cases e
  obtain ⟨_, e, h3⟩ := hr.byte (j := 3) (by omega); cases e
  have g0 : 0 < n := by omega
  rw [add_zero'] at h0
  replace h1 : w.cell? ⟨ad.block, ad.off + 1, none⟩ = _ := h1
  replace h2 : w.cell? ⟨ad.block, ad.off + 2, none⟩ = _ := h2
  replace h3 : w.cell? ⟨ad.block, ad.off + 3, none⟩ = _ := h3
  have g1 : (1 : Int) < (n : Int) := by omega
  have g2 : (2 : Int) < (n : Int) := by omega
  have g3 : (3 : Int) < (n : Int) := by omega
  go_enter Try.func57, Try.ntmps57
  go_wp2
  have hg := numB_get (l := l) (by omega)
  have b0 := l[0].toNat_lt
  have b1 := l[1].toNat_lt
  have b2 := l[2].toNat_lt
  have b3 := l[3].toNat_lt
  generalize l[0].toNat = x0 at *
  generalize l[1].toNat = x1 at *
  generalize l[2].toNat = x2 at *
  generalize l[3].toNat = x3 at *
  have HO := Lib.hid (or4_u32 x0 x1 x2 x3 b0 b1 b2 b3)
  have HG := Lib.hid hg
  clear hg
  go_quiet (fail)
  go_wp2
  go_ret
  exact ⟨ret_i (by rw [HG.out]; exact HO.out), _, rfl⟩

theorem number_b {v : Value} {l : List UInt8} {w : World} (hb : Bytes w v l) (h : 4 ≤ l.length) :
    Calls Try.prog 57 #[v] w fun e w' => e = .returned (.int .i64 (numB l : Nat)) ∧ ∃ k, w' = w.drewN k := by
  obtain ⟨A, n, c, rfl, h1, h2, h3, h4⟩ := hb
  exact number_any A n c l w h1 h4 (by omega)
theorem number_c {v : Value} {l : List UInt8} {w : World} (hb : Bytes w v l) (h : 4 ≤ l.length) :
    Calls Try.prog 57 #[v] w fun e w' => e = .returned (.int .i64 (numB l : Nat)) ∧ Below w.heap.size w w' :=
  (number_b hb h).mono fun _ _ ⟨e, k, hk⟩ => ⟨e, by rw [hk]; exact below_drewN (Below.refl _ _) k⟩
theorem own_none (w : World) (base : Nat) (e : TypeId) (hb : base ≤ w.heap.size) : (w.alloc (.cells #[] e)).ownsRow base e 1 (.slice (some ⟨w.heap.size, 0, none⟩) 0 0) 0 (bv []) :=
  own_new_at hb rfl e #[] rfl (by simp [maxLen]) rfl

set_option maxRecDepth 100000 in
set_option maxHeartbeats 400000 in
theorem Clone_any (v : Value) (l : List UInt8) (w : World) (hv : Bytes w v l) (hl : l.length ≤ 140737488355328) :
    Calls Try.prog 35 #[v] w fun e w' => ∃ v', e = .returned v' ∧ w'.ownsRow w.heap.size 5 1 v' l.length (bv l) ∧ Below w.heap.size w w' := by
  have hT := bytesTyR
  obtain ⟨A, n, c, rfl, h1, h2, h3, h4⟩ := hv
  have hq : ∀ (w : World) (a : Option Addr) (n c n' c' : Nat), (binOp .eql 22 (.slice a n c) (.slice none n' c')).run Try.prog w = .ok (.bool a.isNone) w := fun w a n c n' c' => Lib.run_eql_slice_nil w _ _ a n c n' c' Try.underlying22
  cases A with
  | none =>
    have e : l = [] := by
      cases l with
      | nil => rfl
      | cons x l => obtain ⟨_, e, _⟩ := h4.byte (j := 0) (by simp); cases e
    go_enter Try.func35, Try.ntmps35
    go_wp2
    go_ret
    exact ⟨_, rfl, by rw [e]; exact ⟨rfl, .inl ⟨rfl, rfl⟩⟩, Below.refl _ _⟩
  | some ad =>
    have hy : Bytes w (.slice (some ad) n c) l := ⟨_, n, c, rfl, h1, h2, h3, h4⟩
    have ho := own_none w w.heap.size 5 (Nat.le_refl _)
    have hB : Below w.heap.size w (w.alloc (.cells #[] 5)) := (Below.refl _ _).alloc (Nat.le_refl _) _
    go_enter Try.func35, Try.ntmps35
    go_wp2_with (at_builtin; refine wpList_append_bytes rfl (.tmp 5) (.tmp 6) _ rfl w.heap.size hT (xs := []) rfl ho rfl (hy.ext hB) (by omega) hB.size ?_; intro v3 w3 ho3 hg3 hat3)
    go_ret
    exact ⟨_, rfl, by simpa using ho3, below_own hB ho (Nat.le_refl _) hg3 hB.size⟩
end Go.Mun

-- RecRead2
namespace Go.Mun
open Go Go.RowKit Go.Proofs

theorem recTy : AggTy Try.prog 97 5 := ⟨⟨_, Try.underlying97, rfl⟩, by kernel_rfl⟩
theorem zRec_info : (Try.prog.info? 97).bind (·.zero) = some (.agg #[.int .i64 0, .bool false, .slice none 0 0, .slice none 0 0, .int .i64 0]) := by kernel_rfl

/-- a record in five cells, whose bytes lie in rows of the call's own -/
def RecO (base : Nat) (w : World) (r : Rec) (cs : Array Value) : Prop := ∃ kv vv, cs = #[.int .i64 r.kind, .bool r.del, kv, vv, .int .i64 r.n] ∧
  w.ownsRow base 5 1 kv r.key.length (bv r.key) ∧ w.ownsRow base 5 1 vv r.value.length (bv r.value)
theorem own_nil (w : World) (base : Nat) : w.ownsRow base 5 1 (.slice none 0 0) (List.length ([] : List UInt8)) (bv []) := ⟨rfl, .inl ⟨rfl, rfl⟩⟩
theorem RecO.zero (base : Nat) (w : World) : RecO base w .zero #[.int .i64 0, .bool false, .slice none 0 0, .slice none 0 0, .int .i64 0] := ⟨_, _, rfl, own_nil _ _, own_nil _ _⟩
theorem RecO.ext {base : Nat} {w w' : World} {r : Rec} {cs : Array Value} (h : RecO base w r cs) (hb : Below w.heap.size w w') : RecO base w' r cs := by
  obtain ⟨a, b, e, h1, h2⟩ := h
  exact ⟨a, b, e, own_ext h1 hb, own_ext h2 hb⟩
theorem RecO.kept {base g : Nat} {w w' : World} {r : Rec} {cs : Array Value} (h : RecO base w r cs) (hg : w.grownBy w' (some g)) (hlt : g < base) : RecO base w' r cs := by
  obtain ⟨a, b, e, h1, h2⟩ := h
  exact ⟨a, b, e, own_kept h1 hg hlt, own_kept h2 hg hlt⟩
theorem RecO.base {base base' : Nat} {w : World} {r : Rec} {cs : Array Value} (h : RecO base w r cs) (hb : base' ≤ base) : RecO base' w r cs := by
  obtain ⟨a, b, e, h1, h2⟩ := h
  exact ⟨a, b, e, own_base h1 hb, own_base h2 hb⟩
/-- what 'read' answers -/
def ReadPost (w : World) (b : List UInt8) (e : Ending) (w' : World) : Prop :=
  Below w.heap.size w w' ∧ ∃ cs, e = .returned (.tuple #[.agg cs, .bool (readB b).isSome]) ∧ RecO w.heap.size w' ((readB b).getD .zero) cs
theorem readPost_none {w w' : World} {b : List UInt8} (h : Hid (readB b = none)) (hb : Below w.heap.size w w') :
    ReadPost w b (.returned (.tuple #[.agg #[.int .i64 0, .bool false, .slice none 0 0, .slice none 0 0, .int .i64 0], .bool false])) w' := by
  have h' := h.out
  refine ⟨hb, _, by rw [h']; rfl, ?_⟩
  rw [h']
  exact RecO.zero _ _
theorem readPost_some {w w' : World} {b : List UInt8} {r : Rec} {cs : Array Value} (h : Hid (readB b = some r)) (hb : Below w.heap.size w w') (hc : RecO w.heap.size w' r cs) :
    ReadPost w b (.returned (.tuple #[.agg cs, .bool true])) w' := by
  have h' := h.out
  refine ⟨hb, _, by rw [h']; rfl, ?_⟩
  rw [h']
  exact hc

set_option maxRecDepth 100000 in
set_option maxHeartbeats 2000000 in
theorem read_two (A : Option Addr) (n c : Nat) (b : List UInt8) (w : World) (hb : Bytes w (.slice A n c) b) (hpos : 0 < n) (hn : n ≤ 16842758) (c2 : b.getD 0 0 = 2) :
    Calls Try.prog 59 #[.slice A n c] w (ReadPost w b) := by
  have hT := bytesTyR
  have hR := recTy
  have zR := zRec_info
  obtain ⟨A', n', c', e, h1, h2, h3, h4⟩ := id hb
  cases e
  unfold maxLen at h3
  obtain ⟨ad, rfl, g0⟩ := h4.byte (j := 0) (by omega)
  rw [add_zero'] at g0
  have e0 : b.getD 0 0 = b[0] := by rw [List.getD_eq_getElem?_getD, List.getElem?_eq_getElem]; rfl
  have e2 : b[0].toNat = 2 := by rw [← e0, c2]; rfl
  by_cases c5 : n = 5
  · subst c5
    obtain ⟨A1, hr1, hb1⟩ := cut_l hT (some ad) 5 c (kl := .i64) (lo' := 1) (lo := 1) rfl (by omega)
    have HB1 := Lib.hid hb1
    clear hb1
    rw [e2] at g0
    clear e0 h4 e2
    by_cases cm : 2147483647 < numB (b.drop 1)
    · have HR := Lib.hid (show readB b = none from by unfold readB; rw [if_pos c2, if_pos (.inr cm)])
      have dm : decide ((2147483647 : Int) < (numB (b.drop 1) : Nat)) = true := decide_eq_true (by omega)
      clear c2
      generalize hN : numB (b.drop 1) = k at *
      have HN := Lib.hid hN
      clear hN
      have tok1 : True := trivial
      go_enter Try.func59, Try.ntmps59
      go_wp2_with (first | (have _t := tok1; refine wpList_alloc_blk rfl 97 rfl zR ?_; clear tok1; intro w1 hx1 hB hl1; have g1 := cell_ext hB g0; clear g0) | fail)
      refine (number_c (HB1.out _ b (hb.ext hB)) (by rw [List.length_drop]; omega)).mono ?_
      rintro e wq ⟨rfl, hbq⟩
      rw [HN.out]
      replace hx1 := hx1.ext hbq
      replace hB := below_step hB hbq
      go_wp2_with (first | (refine wpList_store_all rfl 97 (.tmp 2) (.tmp 21) rfl #[.int .i64 0, .bool false, .slice none 0 0, .slice none 0 0, .int .i64 0] hx1 hR rfl rfl (by rfl) (by rfl) ?_; intro w9 hx9 hg9; have hB9 := below_blk hB (hB).size hg9 (Nat.le_refl _)) | fail)
      refine bodyPost_ret (results_blk2 (q := 3) rfl hR hx9 rfl rfl) rfl (readPost_none HR hB9)
    · have HR := Lib.hid (show readB b = some ⟨2, false, [], [], (numB (b.drop 1) : Nat)⟩ from by unfold readB; rw [if_pos c2, if_neg (by omega)])
      have dm : decide ((2147483647 : Int) < (numB (b.drop 1) : Nat)) = false := decide_eq_false (by omega)
      clear c2
      generalize hN : numB (b.drop 1) = k at *
      have HN := Lib.hid hN
      clear hN
      have tok1 : True := trivial
      go_enter Try.func59, Try.ntmps59
      go_wp2_with (first | (have _t := tok1; refine wpList_alloc_blk rfl 97 rfl zR ?_; clear tok1; intro w1 hx1 hB hl1; have g1 := cell_ext hB g0; clear g0) | fail)
      refine (number_c (HB1.out _ b (hb.ext hB)) (by rw [List.length_drop]; omega)).mono ?_
      rintro e wq ⟨rfl, hbq⟩
      rw [HN.out]
      replace hx1 := hx1.ext hbq
      replace hB := below_step hB hbq
      go_wp2_with fail
      refine (number_c (HB1.out _ b (hb.ext hB)) (by rw [List.length_drop]; omega)).mono ?_
      rintro e wq2 ⟨rfl, hbq2⟩
      rw [HN.out]
      replace hx1 := hx1.ext hbq2
      replace hB := below_step hB hbq2
      go_wp2_with (first | (refine wpList_store_all rfl 97 (.tmp 2) (.tmp 25) rfl #[.int .i64 2, .bool false, .slice none 0 0, .slice none 0 0, .int .i64 (k : Int)] hx1 hR rfl rfl (by rfl) (by rfl) ?_; intro w9 hx9 hg9; have hB9 := below_blk hB (hB).size hg9 (Nat.le_refl _)) | fail)
      exact bodyPost_ret (results_blk2 (q := 3) rfl hR hx9 rfl rfl) rfl (readPost_some HR hB9 ⟨_, _, rfl, own_nil _ _, own_nil _ _⟩)
  · have HR := Lib.hid (show readB b = none from by unfold readB; rw [if_pos c2, if_pos (.inl (by omega))])
    have d5 : ((n : Int) != 5) = true := by rw [bne_iff_ne]; omega
    rw [e2] at g0
    clear e0 h4 e2 c2
    have tok1 : True := trivial
    go_enter Try.func59, Try.ntmps59
    go_wp2_with (first | (have _t := tok1; refine wpList_alloc_blk rfl 97 rfl zR ?_; clear tok1; intro w1 hx1 hB hl1; have g1 := cell_ext hB g0; clear g0) | (refine wpList_store_all rfl 97 (.tmp 2) (.tmp 21) rfl #[.int .i64 0, .bool false, .slice none 0 0, .slice none 0 0, .int .i64 0] hx1 hR rfl rfl (by rfl) (by rfl) ?_; intro w9 hx9 hg9; have hB9 := below_blk hB (hB).size hg9 (Nat.le_refl _)) | fail)
    refine bodyPost_ret (results_blk2 (q := 3) rfl hR hx9 rfl rfl) rfl (readPost_none HR hB9)
set_option maxRecDepth 100000 in
set_option maxHeartbeats 4000000 in
theorem read_one (A : Option Addr) (n c : Nat) (b : List UInt8) (w : World) (hb : Bytes w (.slice A n c) b) (hpos : 0 < n) (hn : n ≤ 16842758) (c2 : b.getD 0 0 ≠ 2) :
    Calls Try.prog 59 #[.slice A n c] w (ReadPost w b) := by
  have hT := bytesTyR
  have hR := recTy
  have zR := zRec_info
  obtain ⟨A', n', c', e, h1, h2, h3, h4⟩ := id hb
  cases e
  unfold maxLen at h3
  obtain ⟨ad, rfl, g0⟩ := h4.byte (j := 0) (by omega)
  rw [add_zero'] at g0
  have e0 : b.getD 0 0 = b[0] := by rw [List.getD_eq_getElem?_getD, List.getElem?_eq_getElem]; rfl
  have hx0 : b[0].toNat ≠ 2 := fun e => c2 (by rw [e0]; exact UInt8.toNat_inj.1 e)
  have u2 : ((b[0].toNat : Int) == 2) = false := by rw [beq_eq_false_iff_ne]; omega
  by_cases c1 : b.getD 0 0 = 1
  · have e1 : b[0].toNat = 1 := by rw [← e0, c1]; rfl
    rw [e1] at g0
    clear e0 e1 hx0 u2
    by_cases c6 : n < 6
    · have HR := Lib.hid (show readB b = none from by unfold readB; rw [if_neg c2, if_pos (.inr (.inl (by omega)))])
      have d6 : decide ((n : Int) < 6) = true := decide_eq_true (by omega)
      clear c1 c2 h4
      have tok1 : True := trivial
      go_enter Try.func59, Try.ntmps59
      go_wp2_with (first | (have _t := tok1; refine wpList_alloc_blk rfl 97 rfl zR ?_; clear tok1; intro w1 hx1 hB hl1; have g0' := cell_ext hB g0; clear g0) | (refine wpList_store_all rfl 97 (.tmp 2) (.tmp 41) rfl #[.int .i64 0, .bool false, .slice none 0 0, .slice none 0 0, .int .i64 0] hx1 hR rfl rfl (by rfl) (by rfl) ?_; intro w9 hx9 hg9; have hB9 := below_blk hB hB.size hg9 (Nat.le_refl _)) | fail)
      refine bodyPost_ret (results_blk2 (q := 3) rfl hR hx9 rfl rfl) rfl (readPost_none HR hB9)
    · have d6 : decide ((n : Int) < 6) = false := decide_eq_false (by omega)
      obtain ⟨_, e, g1⟩ := h4.byte (j := 1) (by omega)
      cases e
      replace g1 : w.cell? ⟨ad.block, ad.off + 1, none⟩ = _ := g1
      have g1n : (1 : Int) < (n : Int) := by omega
      have e1 : b.getD 1 0 = b[1] := by rw [List.getD_eq_getElem?_getD, List.getElem?_eq_getElem]; rfl
      rw [← e1] at g1
      clear h4 e1
      by_cases cb : 1 < (b.getD 1 0).toNat
      · have HR := Lib.hid (show readB b = none from by unfold readB; rw [if_neg c2, if_pos (.inr (.inr cb))])
        have db : decide ((1 : Int) < ((b.getD 1 0).toNat : Int)) = true := decide_eq_true (by omega)
        clear c1 c2
        generalize (b.getD 1 0).toNat = x1 at *
        have tok1 : True := trivial
        go_enter Try.func59, Try.ntmps59
        go_wp2_with (first | (have _t := tok1; refine wpList_alloc_blk rfl 97 rfl zR ?_; clear tok1; intro w1 hx1 hB hl1; have g0' := cell_ext hB g0; clear g0; have g1' := cell_ext hB g1; clear g1) | (refine wpList_store_all rfl 97 (.tmp 2) (.tmp 41) rfl #[.int .i64 0, .bool false, .slice none 0 0, .slice none 0 0, .int .i64 0] hx1 hR rfl rfl (by rfl) (by rfl) ?_; intro w9 hx9 hg9; have hB9 := below_blk hB hB.size hg9 (Nat.le_refl _)) | fail)
        refine bodyPost_ret (results_blk2 (q := 3) rfl hR hx9 rfl rfl) rfl (readPost_none HR hB9)
      · have hnot : ¬ (b.getD 0 0 ≠ 1 ∨ b.length < 6 ∨ 1 < (b.getD 1 0).toNat) := by
          rintro (e | e | e)
          · exact e c1
          · omega
          · exact cb e
        obtain ⟨A2, hr2, hb2⟩ := cut_l hT (some ad) n c (kl := .i64) (lo' := 2) (lo := 2) rfl (by omega)
        have HB2 := Lib.hid hb2
        clear hb2
        by_cases ck : 65536 < numB (b.drop 2) ∨ n < numB (b.drop 2) + 6
        · have HR := Lib.hid (show readB b = none from by unfold readB; rw [if_neg c2, if_neg hnot, if_pos (by omega)])
          have db : decide ((1 : Int) < ((b.getD 1 0).toNat : Int)) = false := decide_eq_false (by omega)
          clear c1 c2 hnot
          generalize hN : numB (b.drop 2) = k at *
          have HN := Lib.hid hN
          clear hN
          generalize (b.getD 1 0).toNat = x1 at *
          by_cases ck1 : 65536 < k
          · have dk : decide ((65536 : Int) < (k : Int)) = true := decide_eq_true (by omega)
            clear ck
            have tok1 : True := trivial
            go_enter Try.func59, Try.ntmps59
            go_wp2_with (first | (have _t := tok1; refine wpList_alloc_blk rfl 97 rfl zR ?_; clear tok1; intro w1 hx1 hB hl1; have g0' := cell_ext hB g0; clear g0; have g1' := cell_ext hB g1; clear g1) | fail)
            refine (number_c (HB2.out _ b (hb.ext hB)) (by rw [List.length_drop]; omega)).mono ?_
            rintro e wq ⟨rfl, hbq⟩
            rw [HN.out]
            replace hx1 := hx1.ext hbq
            replace hB := below_step hB hbq
            replace g0' := cell_ext hbq g0'
            replace g1' := cell_ext hbq g1'
            go_wp2_with (first | (refine wpList_store_all rfl 97 (.tmp 2) (.tmp 54) rfl #[.int .i64 0, .bool false, .slice none 0 0, .slice none 0 0, .int .i64 0] hx1 hR rfl rfl (by rfl) (by rfl) ?_; intro w9 hx9 hg9; have hB9 := below_blk hB hB.size hg9 (Nat.le_refl _)) | fail)
            refine bodyPost_ret (results_blk2 (q := 3) rfl hR hx9 rfl rfl) rfl (readPost_none HR hB9)
          · have dk : decide ((65536 : Int) < (k : Int)) = false := decide_eq_false (by omega)
            have dk2 : decide ((n : Int) - 6 < (k : Int)) = true := decide_eq_true (by omega)
            clear ck
            have tok1 : True := trivial
            go_enter Try.func59, Try.ntmps59
            go_wp2_with (first | (have _t := tok1; refine wpList_alloc_blk rfl 97 rfl zR ?_; clear tok1; intro w1 hx1 hB hl1; have g0' := cell_ext hB g0; clear g0; have g1' := cell_ext hB g1; clear g1) | fail)
            refine (number_c (HB2.out _ b (hb.ext hB)) (by rw [List.length_drop]; omega)).mono ?_
            rintro e wq ⟨rfl, hbq⟩
            rw [HN.out]
            replace hx1 := hx1.ext hbq
            replace hB := below_step hB hbq
            replace g0' := cell_ext hbq g0'
            replace g1' := cell_ext hbq g1'
            go_wp2_with (first | (refine wpList_store_all rfl 97 (.tmp 2) (.tmp 54) rfl #[.int .i64 0, .bool false, .slice none 0 0, .slice none 0 0, .int .i64 0] hx1 hR rfl rfl (by rfl) (by rfl) ?_; intro w9 hx9 hg9; have hB9 := below_blk hB hB.size hg9 (Nat.le_refl _)) | fail)
            refine bodyPost_ret (results_blk2 (q := 3) rfl hR hx9 rfl rfl) rfl (readPost_none HR hB9)
        · obtain ⟨AK, hrk, hbk⟩ := cut_lh hT (some ad) n c (kl := .i64) (kh := .i64) (lo' := 6) (lo := 6) (hi' := 6 + (numB (b.drop 2) : Nat)) (hi := 6 + numB (b.drop 2)) rfl (by omega) (by omega) (by omega)
          obtain ⟨AV, hrv, hbv⟩ := cut_l hT (some ad) n c (kl := .i64) (lo' := 6 + (numB (b.drop 2) : Nat)) (lo := 6 + numB (b.drop 2)) (by omega) (by omega)
          rw [show 6 + numB (b.drop 2) - 6 = numB (b.drop 2) from by omega] at hrk hbk
          have HBK := Lib.hid hbk
          have HBV := Lib.hid hbv
          clear hbk hbv
          have dk : decide ((65536 : Int) < ((numB (b.drop 2) : Nat) : Int)) = false := decide_eq_false (by omega)
          have dk2 : decide ((n : Int) - 6 < ((numB (b.drop 2) : Nat) : Int)) = false := decide_eq_false (by omega)
          have hbv1 : (b.drop (6 + numB (b.drop 2))).length = n - (6 + numB (b.drop 2)) := by rw [List.length_drop, h1]
          by_cases cv : (b.getD 1 0 = 1 ∧ 6 + numB (b.drop 2) < b.length) ∨ 16777216 + 6 + numB (b.drop 2) < b.length
          · have HR := Lib.hid (show readB b = none from by unfold readB; rw [if_neg c2, if_neg hnot, if_neg (by omega), if_pos cv])
            rw [h1] at cv
            clear hnot
            by_cases cd : b.getD 1 0 = 1
            · have hm : 0 < n - (6 + numB (b.drop 2)) := by omega
              have x1 : (b.getD 1 0).toNat = 1 := by rw [cd]; rfl
              rw [x1] at g1
              clear cb cv x1
              clear c1 c2 cd hbv1
              generalize hN : numB (b.drop 2) = k at *
              have HN := Lib.hid hN
              clear hN
              have hwr : IntKind.i64.wrap (6 + (k : Int)) = 6 + (k : Int) := IntWalk.i64_in _ (by omega)
              generalize n - (6 + k) = m at *
              have dm : decide (0 < m) = true := decide_eq_true hm
              have dm' : decide ((0 : Int) < (m : Int)) = true := decide_eq_true (by omega)
              have tok1 : True := trivial
              go_enter Try.func59, Try.ntmps59
              go_wp2_with (first | (have _t := tok1; refine wpList_alloc_blk rfl 97 rfl zR ?_; clear tok1; intro w1 hx1 hB hl1; have g0' := cell_ext hB g0; clear g0; have g1' := cell_ext hB g1; clear g1) | fail)
              refine (number_c (HB2.out _ b (hb.ext hB)) (by rw [List.length_drop]; omega)).mono ?_
              rintro e wq ⟨rfl, hbq⟩
              rw [HN.out]
              replace hx1 := hx1.ext hbq
              replace hB := below_step hB hbq
              replace g0' := cell_ext hbq g0'
              replace g1' := cell_ext hbq g1'
              go_wp2_with fail
              go_quiet (fail)
              replace hx1 := hx1.drewN nq
              replace hB := below_drewN hB nq
              go_wp2_with (first | (refine wpList_store_all rfl 97 (.tmp 2) (.tmp 78) rfl #[.int .i64 0, .bool false, .slice none 0 0, .slice none 0 0, .int .i64 0] hx1 hR rfl rfl (by rfl) (by rfl) ?_; intro w9 hx9 hg9; have hB9 := below_blk hB hB.size hg9 (Nat.le_refl _)) | fail)
              refine bodyPost_ret (results_blk2 (q := 3) rfl hR hx9 rfl rfl) rfl (readPost_none HR hB9)
            · have x1 : (b.getD 1 0).toNat = 0 := by
                have : (b.getD 1 0).toNat ≠ 1 := fun e => cd (UInt8.toNat_inj.1 e)
                omega
              have hm : 16777216 < n - (6 + numB (b.drop 2)) := by
                rcases cv with ⟨e, _⟩ | e
                · exact absurd e cd
                · omega
              rw [x1] at g1
              clear cb cv x1
              clear c1 c2 cd hbv1
              generalize hN : numB (b.drop 2) = k at *
              have HN := Lib.hid hN
              clear hN
              have hwr : IntKind.i64.wrap (6 + (k : Int)) = 6 + (k : Int) := IntWalk.i64_in _ (by omega)
              generalize n - (6 + k) = m at *
              have dm : decide ((16777216 : Int) < (m : Int)) = true := decide_eq_true (by omega)
              have tok1 : True := trivial
              go_enter Try.func59, Try.ntmps59
              go_wp2_with (first | (have _t := tok1; refine wpList_alloc_blk rfl 97 rfl zR ?_; clear tok1; intro w1 hx1 hB hl1; have g0' := cell_ext hB g0; clear g0; have g1' := cell_ext hB g1; clear g1) | fail)
              refine (number_c (HB2.out _ b (hb.ext hB)) (by rw [List.length_drop]; omega)).mono ?_
              rintro e wq ⟨rfl, hbq⟩
              rw [HN.out]
              replace hx1 := hx1.ext hbq
              replace hB := below_step hB hbq
              replace g0' := cell_ext hbq g0'
              replace g1' := cell_ext hbq g1'
              go_wp2_with fail
              go_quiet (fail)
              replace hx1 := hx1.drewN nq
              replace hB := below_drewN hB nq
              go_wp2_with (first | (refine wpList_store_all rfl 97 (.tmp 2) (.tmp 78) rfl #[.int .i64 0, .bool false, .slice none 0 0, .slice none 0 0, .int .i64 0] hx1 hR rfl rfl (by rfl) (by rfl) ?_; intro w9 hx9 hg9; have hB9 := below_blk hB hB.size hg9 (Nat.le_refl _)) | fail)
              refine bodyPost_ret (results_blk2 (q := 3) rfl hR hx9 rfl rfl) rfl (readPost_none HR hB9)
          · have HR := Lib.hid (show readB b = some ⟨1, b.getD 1 0 = 1, (b.take (6 + numB (b.drop 2))).drop 6, b.drop (6 + numB (b.drop 2)), 0⟩ from by unfold readB; rw [if_neg c2, if_neg hnot, if_neg (by omega), if_neg cv])
            rw [h1] at cv
            clear hnot
            by_cases cd : b.getD 1 0 = 1
            · have hm : n - (6 + numB (b.drop 2)) = 0 := by
                have : ¬ 6 + numB (b.drop 2) < n := fun h => cv (.inl ⟨cd, h⟩)
                omega
              have x1 : (b.getD 1 0).toNat = 1 := by rw [cd]; rfl
              rw [x1] at g1
              rw [decide_eq_true cd] at HR
              clear cb cv x1
              rw [hm] at hrv HBV
              clear c1 c2 cd hbv1
              generalize hN : numB (b.drop 2) = k at *
              have HN := Lib.hid hN
              clear hN
              have hwr : IntKind.i64.wrap (6 + (k : Int)) = 6 + (k : Int) := IntWalk.i64_in _ (by omega)
              have tok1 : True := trivial
              go_enter Try.func59, Try.ntmps59
              go_wp2_with (first | (have _t := tok1; refine wpList_alloc_blk rfl 97 rfl zR ?_; clear tok1; intro w1 hx1 hB hl1; have g0' := cell_ext hB g0; clear g0; have g1' := cell_ext hB g1; clear g1) | fail)
              refine (number_c (HB2.out _ b (hb.ext hB)) (by rw [List.length_drop]; omega)).mono ?_
              rintro e wq ⟨rfl, hbq⟩
              rw [HN.out]
              replace hx1 := hx1.ext hbq
              replace hB := below_step hB hbq
              replace g0' := cell_ext hbq g0'
              replace g1' := cell_ext hbq g1'
              go_wp2_with fail
              go_quiet (fail)
              replace hx1 := hx1.drewN nq
              replace hB := below_drewN hB nq
              go_wp2_with fail
              refine (Clone_any _ _ _ (HBK.out _ b (hb.ext hB) (by omega)) (by rw [List.length_drop, List.length_take]; omega)).mono ?_
              have hK4 := hx1.lt
              rintro e w4 ⟨vk, rfl, hvk, hb4⟩
              replace hx1 := hx1.ext hb4
              replace hB := below_step hB hb4
              go_wp2_with fail
              refine (Clone_any _ _ _ (HBV.out _ b (hb.ext hB)) (by rw [List.length_drop]; omega)).mono ?_
              have hV4 := hx1.lt
              rintro e w5 ⟨vv, rfl, hvv, hb5⟩
              replace hx1 := hx1.ext hb5
              replace hB := below_step hB hb5
              replace hvk := own_ext hvk hb5
              have hbk' := Bytes.own hvk
              have hbv' := Bytes.own hvv
              obtain ⟨Ak, nk, ck', rfl, k1, k2, k3, k4⟩ := hbk'
              obtain ⟨Av, nv, cv', rfl, v1, v2, v3, v4⟩ := hbv'
              go_wp2_with (first | (refine wpList_store_all rfl 97 (.tmp 2) (.tmp 85) rfl #[.int .i64 1, .bool true, .slice Ak nk ck', .slice Av nv cv', .int .i64 0] hx1 hR rfl rfl (by rfl) (by rfl) ?_; intro w9 hx9 hg9; have hB9 := below_blk hB hB.size hg9 (Nat.le_refl _)) | fail)
              exact bodyPost_ret (results_blk2 (q := 3) rfl hR hx9 rfl rfl) rfl (readPost_some HR hB9 ⟨_, _, rfl, own_base (own_kept hvk hg9 hK4) (Nat.le_of_lt hK4), own_base (own_kept hvv hg9 hV4) (Nat.le_of_lt hV4)⟩)
            · have x1 : (b.getD 1 0).toNat = 0 := by
                have : (b.getD 1 0).toNat ≠ 1 := fun e => cd (UInt8.toNat_inj.1 e)
                omega
              have hm : ¬ 16777216 < n - (6 + numB (b.drop 2)) := fun h => cv (.inr (by omega))
              rw [x1] at g1
              rw [decide_eq_false cd] at HR
              clear cb cv x1
              clear c1 c2 cd hbv1
              generalize hN : numB (b.drop 2) = k at *
              have HN := Lib.hid hN
              clear hN
              have hwr : IntKind.i64.wrap (6 + (k : Int)) = 6 + (k : Int) := IntWalk.i64_in _ (by omega)
              generalize n - (6 + k) = m at *
              have dm : decide ((16777216 : Int) < (m : Int)) = false := decide_eq_false (by omega)
              have tok1 : True := trivial
              go_enter Try.func59, Try.ntmps59
              go_wp2_with (first | (have _t := tok1; refine wpList_alloc_blk rfl 97 rfl zR ?_; clear tok1; intro w1 hx1 hB hl1; have g0' := cell_ext hB g0; clear g0; have g1' := cell_ext hB g1; clear g1) | fail)
              refine (number_c (HB2.out _ b (hb.ext hB)) (by rw [List.length_drop]; omega)).mono ?_
              rintro e wq ⟨rfl, hbq⟩
              rw [HN.out]
              replace hx1 := hx1.ext hbq
              replace hB := below_step hB hbq
              replace g0' := cell_ext hbq g0'
              replace g1' := cell_ext hbq g1'
              go_wp2_with fail
              go_quiet (fail)
              replace hx1 := hx1.drewN nq
              replace hB := below_drewN hB nq
              go_wp2_with fail
              refine (Clone_any _ _ _ (HBK.out _ b (hb.ext hB) (by omega)) (by rw [List.length_drop, List.length_take]; omega)).mono ?_
              have hK4 := hx1.lt
              rintro e w4 ⟨vk, rfl, hvk, hb4⟩
              replace hx1 := hx1.ext hb4
              replace hB := below_step hB hb4
              go_wp2_with fail
              refine (Clone_any _ _ _ (HBV.out _ b (hb.ext hB)) (by rw [List.length_drop]; omega)).mono ?_
              have hV4 := hx1.lt
              rintro e w5 ⟨vv, rfl, hvv, hb5⟩
              replace hx1 := hx1.ext hb5
              replace hB := below_step hB hb5
              replace hvk := own_ext hvk hb5
              have hbk' := Bytes.own hvk
              have hbv' := Bytes.own hvv
              obtain ⟨Ak, nk, ck', rfl, k1, k2, k3, k4⟩ := hbk'
              obtain ⟨Av, nv, cv', rfl, v1, v2, v3, v4⟩ := hbv'
              go_wp2_with (first | (refine wpList_store_all rfl 97 (.tmp 2) (.tmp 85) rfl #[.int .i64 1, .bool false, .slice Ak nk ck', .slice Av nv cv', .int .i64 0] hx1 hR rfl rfl (by rfl) (by rfl) ?_; intro w9 hx9 hg9; have hB9 := below_blk hB hB.size hg9 (Nat.le_refl _)) | fail)
              exact bodyPost_ret (results_blk2 (q := 3) rfl hR hx9 rfl rfl) rfl (readPost_some HR hB9 ⟨_, _, rfl, own_base (own_kept hvk hg9 hK4) (Nat.le_of_lt hK4), own_base (own_kept hvv hg9 hV4) (Nat.le_of_lt hV4)⟩)
  · have HR := Lib.hid (show readB b = none from by unfold readB; rw [if_neg c2, if_pos (.inl c1)])
    have u1 : ((b[0].toNat : Int) != 1) = true := by rw [bne_iff_ne]; intro e; exact c1 (by rw [e0]; exact UInt8.toNat_inj.1 (by show _ = 1; omega))
    clear c1 c2 e0 h4 hx0
    generalize b[0].toNat = x0 at *
    have tok1 : True := trivial
    go_enter Try.func59, Try.ntmps59
    go_wp2_with (first | (have _t := tok1; refine wpList_alloc_blk rfl 97 rfl zR ?_; clear tok1; intro w1 hx1 hB hl1; have g0' := cell_ext hB g0; clear g0) | (refine wpList_store_all rfl 97 (.tmp 2) (.tmp 41) rfl #[.int .i64 0, .bool false, .slice none 0 0, .slice none 0 0, .int .i64 0] hx1 hR rfl rfl (by rfl) (by rfl) ?_; intro w9 hx9 hg9; have hB9 := below_blk hB hB.size hg9 (Nat.le_refl _)) | fail)
    refine bodyPost_ret (results_blk2 (q := 3) rfl hR hx9 rfl rfl) rfl (readPost_none HR hB9)
end Go.Mun

-- RecNextW
namespace Go.Mun
open Go Go.RowKit Go.Proofs

theorem read_all (v : Value) (b : List UInt8) (w : World) (hb : Bytes w v b) (hpos : 0 < b.length) (hn : b.length ≤ 16842758) :
    Calls Try.prog 59 #[v] w (ReadPost w b) := by
  obtain ⟨A, n, c, rfl, h1, h2, h3, h4⟩ := id hb
  by_cases c2 : b.getD 0 0 = 2
  · exact read_two A n c b w hb (by omega) (by omega) c2
  · exact read_one A n c b w hb (by omega) (by omega) c2

/-- what 'Next' answers -/
def NextPost (w : World) (b : List UInt8) (e : Ending) (w' : World) : Prop :=
  Below w.heap.size w w' ∧ ∃ cs, e = .returned (.tuple #[.agg cs, .int .i64 ((nextB b).2.1 : Nat), .int .i64 (nextB b).2.2]) ∧ RecO w.heap.size w' (nextB b).1 cs
theorem nextPost_of {w w' : World} {b : List UInt8} {r : Rec} {k : Nat} {E : Int} {cs : Array Value} (h : Hid (nextB b = (r, k, E))) (hb : Below w.heap.size w w') (hc : RecO w.heap.size w' r cs) {k' : Int} (hk : k' = k) :
    NextPost w b (.returned (.tuple #[.agg cs, .int .i64 k', .int .i64 E])) w' := by
  have h' := h.out
  subst hk
  exact ⟨hb, cs, by rw [h'], by rw [h']; exact hc⟩

/-- What each operation of the region writes. -/
def SN8 (A A4 A8 : Option Addr) (n c k s : Nat) (x : Int) (d : Bool) : Nat → Value → World → Prop
  | 0, v, _ => v = .slice A n c
  | 1, v, _ => v = .slice A4 (n - 4) (c - 4)
  | 2, v, _ => v = .int .i64 (s : Int)
  | 3, v, _ => v = .slice A n c
  | 4, v, _ => v = .int .i64 (k : Int)
  | 5, v, _ => v = .int .i64 (8 + (k : Int))
  | 6, v, _ => v = .slice A8 k (c - 8)
  | 7, v, w => IsRow w v [.slice A8 k (c - 8)]
  | 8, v, _ => v = .int .i64 x
  | 9, v, _ => v = .bool d
  | _, v, _ => v = .bool d
theorem SN8_stays {A A4 A8 : Option Addr} {n c k s : Nat} {x : Int} {d : Bool} : ∀ i v (wa wb : World), Below wa.heap.size wa wb → SN8 A A4 A8 n c k s x d i v wa → SN8 A A4 A8 n c k s x d i v wb
  | 0, _, _, _, _, h => h
  | 1, _, _, _, _, h => h
  | 2, _, _, _, _, h => h
  | 3, _, _, _, _, h => h
  | 4, _, _, _, _, h => h
  | 5, _, _, _, _, h => h
  | 6, _, _, _, _, h => h
  | 7, _, _, _, hb, h => IsRow.ext h hb
  | 8, _, _, _, _, h => h
  | 9, _, _, _, _, h => h
  | _ + 10, _, _, _, _, h => h

set_option maxRecDepth 100000 in
set_option maxHeartbeats 400000 in
theorem Next_any (v : Value) (b : List UInt8) (w : World) (hbb : Bytes w v b) :
    Calls Try.prog 45 #[v] w (NextPost w b) := by
  have hT := bytesTyR
  have hR := recTy
  have zR := zRec_info
  obtain ⟨A, n, c, rfl, h1, h2, h3, h4⟩ := id hbb
  clear h4
  unfold maxLen at h3
  by_cases c4 : n < 4
  · have HR := Lib.hid (show nextB b = (.zero, 0, 6) from by unfold nextB; rw [if_pos (by omega)])
    have d4 : decide ((n : Int) < 4) = true := decide_eq_true (by omega)
    have tok1 : True := trivial
    go_enter Try.func45, Try.ntmps45
    go_wp2_with (first
      | (have _t := tok1; refine wpList_alloc_blk rfl 97 rfl zR ?_; clear tok1; intro w1 hx1 hB hl1)
      | (refine wpList_store_all rfl 97 (.tmp 2) (.tmp 11) rfl #[.int .i64 0, .bool false, .slice none 0 0, .slice none 0 0, .int .i64 0] hx1 hR rfl rfl (by rfl) (by rfl) ?_; intro w9 hx9 hg9; have hB9 := below_blk hB hB.size hg9 (Nat.le_refl _))
      | fail)
    exact bodyPost_ret (results_blk3 (q := 3) (r := 4) rfl hR hx9 rfl rfl rfl) rfl (nextPost_of HR hB9 (RecO.zero _ _) rfl)
  have d4 : decide ((n : Int) < 4) = false := decide_eq_false (by omega)
  have hlt := numB_lt b
  by_cases ck : numB b = 0 ∨ 16842758 < numB b
  · have HR := Lib.hid (show nextB b = (.zero, 0, 4) from by unfold nextB; rw [if_neg (by omega), if_pos ck])
    generalize hN : numB b = k at *
    have HN := Lib.hid hN
    clear hN
    by_cases ck0 : k = 0
    · subst ck0
      have tok1 : True := trivial
      go_enter Try.func45, Try.ntmps45
      go_wp2_with (first | (have _t := tok1; refine wpList_alloc_blk rfl 97 rfl zR ?_; clear tok1; intro w1 hx1 hB hl1) | fail)
      refine (number_c (hbb.ext hB) (by omega)).mono ?_
      rintro e wq ⟨rfl, hbq⟩
      rw [HN.out]
      replace hx1 := hx1.ext hbq
      replace hB := below_step hB hbq
      go_wp2_with (first | (refine wpList_store_all rfl 97 (.tmp 2) (.tmp 21) rfl #[.int .i64 0, .bool false, .slice none 0 0, .slice none 0 0, .int .i64 0] hx1 hR rfl rfl (by rfl) (by rfl) ?_; intro w9 hx9 hg9; have hB9 := below_blk hB hB.size hg9 (Nat.le_refl _)) | fail)
      exact bodyPost_ret (results_blk3 (q := 3) (r := 4) rfl hR hx9 rfl rfl rfl) rfl (nextPost_of HR hB9 (RecO.zero _ _) rfl)
    · have dk0 : ((k : Int) == 0) = false := by rw [beq_eq_false_iff_ne]; omega
      have dk1 : decide ((16842758 : Int) < (k : Int)) = true := decide_eq_true (by omega)
      clear ck
      have tok1 : True := trivial
      go_enter Try.func45, Try.ntmps45
      go_wp2_with (first | (have _t := tok1; refine wpList_alloc_blk rfl 97 rfl zR ?_; clear tok1; intro w1 hx1 hB hl1) | fail)
      refine (number_c (hbb.ext hB) (by omega)).mono ?_
      rintro e wq ⟨rfl, hbq⟩
      rw [HN.out]
      replace hx1 := hx1.ext hbq
      replace hB := below_step hB hbq
      go_wp2_with (first | (refine wpList_store_all rfl 97 (.tmp 2) (.tmp 21) rfl #[.int .i64 0, .bool false, .slice none 0 0, .slice none 0 0, .int .i64 0] hx1 hR rfl rfl (by rfl) (by rfl) ?_; intro w9 hx9 hg9; have hB9 := below_blk hB hB.size hg9 (Nat.le_refl _)) | fail)
      exact bodyPost_ret (results_blk3 (q := 3) (r := 4) rfl hR hx9 rfl rfl rfl) rfl (nextPost_of HR hB9 (RecO.zero _ _) rfl)
  have dk0 : (((numB b : Nat) : Int) == 0) = false := by rw [beq_eq_false_iff_ne]; omega
  have dk1 : decide ((16842758 : Int) < ((numB b : Nat) : Int)) = false := decide_eq_false (by omega)
  by_cases cl : n < 8 + numB b
  · have HR := Lib.hid (show nextB b = (.zero, 0, 6) from by unfold nextB; rw [if_neg (by omega), if_neg ck, if_pos (by omega)])
    have dl : decide ((n : Int) < 8 + ((numB b : Nat) : Int)) = true := decide_eq_true (by omega)
    generalize hN : numB b = k at *
    have HN := Lib.hid hN
    clear hN
    have tok1 : True := trivial
    go_enter Try.func45, Try.ntmps45
    go_wp2_with (first | (have _t := tok1; refine wpList_alloc_blk rfl 97 rfl zR ?_; clear tok1; intro w1 hx1 hB hl1) | fail)
    refine (number_c (hbb.ext hB) (by omega)).mono ?_
    rintro e wq ⟨rfl, hbq⟩
    rw [HN.out]
    replace hx1 := hx1.ext hbq
    replace hB := below_step hB hbq
    go_wp2_with (first | (refine wpList_store_all rfl 97 (.tmp 2) (.tmp 28) rfl #[.int .i64 0, .bool false, .slice none 0 0, .slice none 0 0, .int .i64 0] hx1 hR rfl rfl (by rfl) (by rfl) ?_; intro w9 hx9 hg9; have hB9 := below_blk hB hB.size hg9 (Nat.le_refl _)) | fail)
    exact bodyPost_ret (results_blk3 (q := 3) (r := 4) rfl hR hx9 rfl rfl rfl) rfl (nextPost_of HR hB9 (RecO.zero _ _) rfl)
  have dl : decide ((n : Int) < 8 + ((numB b : Nat) : Int)) = false := decide_eq_false (by omega)
  obtain ⟨A4, hr4, hb4⟩ := cut_l hT A n c (kl := .i64) (lo' := 4) (lo := 4) rfl (by omega)
  obtain ⟨A8, hr8, hb8⟩ := cut_lh hT A n c (kl := .i64) (kh := .i64) (lo' := 8) (lo := 8) (hi' := 8 + (numB b : Nat)) (hi := 8 + numB b) rfl (by omega) (by omega) (by omega)
  rw [show 8 + numB b - 8 = numB b from by omega] at hr8 hb8
  have HR := Lib.hid (show nextB b = if (numB (b.drop 4) : Int) ≠ crcSum ((b.take (8 + numB b)).drop 8) then ((.zero, 0, 5) : Rec × Nat × Int)
    else readT (readB ((b.take (8 + numB b)).drop 8)) (numB b) from by unfold nextB; rw [if_neg (by omega), if_neg ck, if_neg (by omega)])
  have HB4 := Lib.hid hb4
  have HB8 := Lib.hid hb8
  clear hb4 hb8
  generalize hN : numB b = k at *
  have HN := Lib.hid hN
  clear hN
  have hsl := numB_lt (b.drop 4)
  generalize hS : numB (b.drop 4) = s at *
  have HS := Lib.hid hS
  clear hS
  have hxl := crcSum_bd ((b.take (8 + k)).drop 8)
  generalize hX : crcSum ((b.take (8 + k)).drop 8) = x at *
  have HX := Lib.hid hX
  clear hX
  obtain ⟨d, hD⟩ : ∃ d : Bool, d = ((s : Int) != x) := ⟨_, rfl⟩
  have HD := Lib.hid hD
  clear hD
  have hwr : IntKind.i64.wrap (8 + (k : Int)) = 8 + (k : Int) := IntWalk.i64_in _ (by omega)
  have tok1 : True := trivial
  go_enter Try.func45, Try.ntmps45
  go_wp2_with (first | (have _t := tok1; refine wpList_alloc_blk rfl 97 rfl zR ?_; clear tok1; intro w1 hx1 hB hl1) | fail)
  refine (number_c (hbb.ext hB) (by omega)).mono ?_
  rintro e wq ⟨rfl, hbq⟩
  rw [HN.out]
  replace hx1 := hx1.ext hbq
  replace hB := below_step hB hbq
  go_wp2_with fail
  refine wp_region_loose (by kernel_rfl) (by kernel_rfl) (by kernel_rfl) rfl (fun w w' => Below w.heap.size w w') (fun w => Below.refl _ _) (fun x y z h1 h2 => below_step h1 h2) (SN8 A A4 A8 n c k s x d) SN8_stays ?_ ?_
  · refine ⟨?_, ?_, ?_, ?_, ?_, ?_, ?_, ?_, ?_, ?_, ?_, trivial⟩
    · intro V wx fr hb hd hs hdef hsz
      have s0 : fr.tmps[0]? = some (.slice A n c) := hs.1
      clear hs
      refine ⟨?_⟩
      go_wp2
      exact op_post hsz (Below.refl _ _) (by simp [SN8])
    · intro V wx fr hb hd hs hdef hsz
      simp only [DepFacts, SN8, Region.binds, forall_const, and_true] at hd
      have d0 := hd
      clear hd
      have s30 : fr.tmps[30]? = some (V 0) := hs.1
      clear hs
      refine ⟨?_⟩
      go_wp2
      exact op_post hsz (Below.refl _ _) (by simp [SN8])
    · intro V wx fr hb hd hs hdef hsz
      simp only [DepFacts, SN8, Region.binds, forall_const, and_true] at hd
      have d1 := hd
      clear hd
      have s31 : fr.tmps[31]? = some (V 1) := hs.1
      rw [d1] at s31
      clear d1
      clear hs
      refine ⟨?_⟩
      go_wp2_with fail
      refine (number_c (HB4.out _ b (hbb.ext (below_step hB (below_step (Below.refl _ _).drew hb)))) (by rw [List.length_drop]; omega)).mono ?_
      rintro e w2 ⟨rfl, hb2⟩
      rw [HS.out]
      go_wp2
      exact op_post hsz hb2 rfl
    · intro V wx fr hb hd hs hdef hsz
      have s0 : fr.tmps[0]? = some (.slice A n c) := hs.1
      clear hs
      refine ⟨?_⟩
      go_wp2
      exact op_post hsz (Below.refl _ _) (by simp [SN8])
    · intro V wx fr hb hd hs hdef hsz
      have s5 : fr.tmps[5]? = some (.int .i64 (k : Int)) := hs.1
      clear hs
      refine ⟨?_⟩
      go_wp2
      exact op_post hsz (Below.refl _ _) (by simp [SN8])
    · intro V wx fr hb hd hs hdef hsz
      simp only [DepFacts, SN8, Region.binds, forall_const, and_true] at hd
      have d4 := hd
      clear hd
      have s34 : fr.tmps[34]? = some (V 4) := hs.1
      clear hs
      refine ⟨?_⟩
      go_wp2
      exact op_post hsz (Below.refl _ _) (by simp [SN8])
    · intro V wx fr hb hd hs hdef hsz
      simp only [DepFacts, SN8, Region.binds, forall_const, and_true] at hd
      have d3 := hd.1
      have d5 := hd.2
      clear hd
      have s33 : fr.tmps[33]? = some (V 3) := hs.1
      have s35 : fr.tmps[35]? = some (V 5) := hs.2.1
      clear hs
      refine ⟨?_⟩
      go_wp2
      exact op_post hsz (Below.refl _ _) (by simp [SN8])
    · intro V wx fr hb hd hs hdef hsz
      simp only [DepFacts, SN8, Region.binds, forall_const, and_true] at hd
      have d6 := hd
      clear hd
      have s36 : fr.tmps[36]? = some (V 6) := hs.1
      rw [d6] at s36
      clear d6
      clear hs
      refine ⟨?_⟩
      go_wp2
      exact op_post hsz ((Below.refl _ _).alloc (Nat.le_refl _) _) ⟨_, rfl, Rd.new _ #[_] _ _⟩
    · intro V wx fr hb hd hs hdef hsz
      simp only [DepFacts, SN8, Region.binds, forall_const, and_true] at hd
      have d7 := hd.1
      clear hd
      have s37 : fr.tmps[37]? = some (V 7) := hs.1
      obtain ⟨g, e7, hr7⟩ := d7
      rw [e7] at s37
      clear e7
      clear hs
      refine ⟨?_⟩
      go_wp2_with fail
      refine (Sum_any (some g) 1 1 [(b.take (8 + k)).drop 8] [.slice A8 k (c - 8)] _ rfl rfl (by omega) hr7 fun i hi => ?_).mono ?_
      · obtain rfl : i = 0 := by omega
        exact HB8.out _ b (hbb.ext (below_step hB (below_step (Below.refl _ _).drew hb))) (by omega)
      rintro e w2 ⟨rfl, rfl⟩
      rw [show ([(b.take (8 + k)).drop 8] : List (List UInt8)).flatten = (b.take (8 + k)).drop 8 from by simp, HX.out]
      go_wp2
      exact op_post hsz (Below.refl _ _) rfl
    · intro V wx fr hb hd hs hdef hsz
      simp only [DepFacts, SN8, Region.binds, forall_const, and_true] at hd
      have d2 := hd.1
      have d8 := hd.2
      clear hd
      have s32 : fr.tmps[32]? = some (V 2) := hs.1
      have s38 : fr.tmps[38]? = some (V 8) := hs.2.1
      rw [d2] at s32
      rw [d8] at s38
      clear d2 d8
      clear hs
      refine ⟨?_⟩
      go_wp2
      exact op_post hsz (Below.refl _ _) (by rw [← HD.out]; rfl)
    · intro V wx fr hb hd hs hdef hsz
      simp only [DepFacts, SN8, Region.binds, forall_const, and_true] at hd
      have d9 := hd.1
      clear hd
      have s39 : fr.tmps[39]? = some (V 9) := hs.1
      clear hs
      refine ⟨?_⟩
      go_wp2
      exact op_post hsz (Below.refl _ _) (by simp [SN8])
  · intro V wy hb hs
    have h10 := hs.2.2.2.2.2.2.2.2.2.2.1
    clear hs
    replace h10 : V 10 = .bool d := h10
    replace hb := below_step (Below.refl _ _).drew hb
    replace hx1 := hx1.ext hb
    replace hB := below_step hB hb
    simp only [fill, h10]
    clear h10 hb
    simp only [Exit.then]
    go_simp
    by_cases cs : (s : Int) = x
    · have hd : d = false := by rw [HD.out, bne_eq_false_iff_eq]; exact cs
      subst hd
      have hlen : ((b.take (8 + k)).drop 8).length = k := by rw [List.length_drop, List.length_take]; omega
      have HR' := Lib.hid (show nextB b = readT (readB ((b.take (8 + k)).drop 8)) k from by rw [HR.out, if_neg (by simpa using cs)])
      clear cs
      go_wp2_with fail
      have hgq := hx1.lt
      refine (read_all _ _ _ (HB8.out _ b (hbb.ext hB) (by omega)) (by omega) (by omega)).mono ?_
      rintro e w3 ⟨hb3, cs, rfl, hcs⟩
      replace hx1 := hx1.ext hb3
      replace hB := below_step hB hb3
      cases hrd : readB ((b.take (8 + k)).drop 8) with
      | none =>
        have HR2 := Lib.hid (show nextB b = (.zero, 0, 4) from by rw [HR'.out, hrd]; rfl)
        rw [hrd] at hcs
        replace hcs : RecO _ w3 Rec.zero cs := hcs
        obtain ⟨kv, vv, rfl, hkv, hvv⟩ := hcs
        clear hrd
        have hoK := own_one hkv
        have hoV := own_one hvv
        have hg1 := hx1.lt
        have tok6 : True := trivial
        have tok7 : True := trivial
        go_wp2_with (first
          | (have _t := tok6; refine wpList_alloc_blk rfl 97 rfl zR ?_; clear tok6; intro w4 hx4 hb4 hl4; replace hx1 := hx1.ext hb4; have hB4 := below_step hB hb4; have hb34 := hb4)
          | (have _t := tok7; refine wpList_store_all rfl 97 (.tmp 6) (.tmp 47) rfl #[.int .i64 Rec.zero.kind, .bool Rec.zero.del, kv, vv, .int .i64 Rec.zero.n] hx4 hR rfl (by simp only [oneAll, hoK, hoV]; rfl) (by rfl) (by rfl) ?_; clear tok7; intro w5 hx5 hg5; replace hx1 := hx1.grown hg5 (by simp; omega); have hB5 := below_blk hB4 hB4.size hg5 hB.size; have hb35 := below_blk hb34 hb34.size hg5 (Nat.le_refl _))
          | (refine wpList_store_all rfl 97 (.tmp 2) (.tmp 51) rfl #[.int .i64 0, .bool false, .slice none 0 0, .slice none 0 0, .int .i64 0] hx1 hR rfl rfl (by rfl) (by rfl) ?_; intro w9 hx9 hg9; have hB9 := below_blk hB5 hB5.size hg9 (Nat.le_refl _))
          | fail)
        exact bodyPost_ret (results_blk3 (q := 3) (r := 4) rfl hR hx9 rfl rfl rfl) rfl (nextPost_of HR2 hB9 (RecO.zero _ _) rfl)
      | some r =>
        have HR2 := Lib.hid (show nextB b = (r, 8 + k, 0) from by rw [HR'.out, hrd]; rfl)
        rw [hrd] at hcs
        replace hcs : RecO _ w3 r cs := hcs
        obtain ⟨kv, vv, rfl, hkv, hvv⟩ := hcs
        clear hrd
        have hoK := own_one hkv
        have hoV := own_one hvv
        have hg1 := hx1.lt
        have tok6 : True := trivial
        have tok7 : True := trivial
        have tok8 : True := trivial
        go_wp2_with (first
          | (have _t := tok6; refine wpList_alloc_blk rfl 97 rfl zR ?_; clear tok6; intro w4 hx4 hb4 hl4; replace hx1 := hx1.ext hb4; have hB4 := below_step hB hb4; have hb34 := hb4)
          | (have _t := tok7; refine wpList_store_all rfl 97 (.tmp 6) (.tmp 47) rfl #[.int .i64 r.kind, .bool r.del, kv, vv, .int .i64 r.n] hx4 hR rfl (by simp only [oneAll, hoK, hoV]; rfl) (by rfl) (by rfl) ?_; clear tok7; intro w5 hx5 hg5; replace hx1 := hx1.grown hg5 (by simp; omega); have hB5 := below_blk hB4 hB4.size hg5 hB.size; have hb35 := below_blk hb34 hb34.size hg5 (Nat.le_refl _))
          | (have _t := tok8; refine wpList_load_blk rfl 97 (.tmp 6) rfl hx5 hR rfl ?_; clear tok8)
          | (refine wpList_store_all rfl 97 (.tmp 2) (.tmp 52) rfl #[.int .i64 r.kind, .bool r.del, kv, vv, .int .i64 r.n] hx1 hR rfl (by simp only [oneAll, hoK, hoV]; rfl) (by rfl) (by rfl) ?_; intro w9 hx9 hg9; have hB9 := below_blk hB5 hB5.size hg9 (Nat.le_refl _))
          | fail)
        exact bodyPost_ret (results_blk3 (q := 3) (r := 4) rfl hR hx9 rfl rfl rfl) rfl (nextPost_of HR2 hB9 (RecO.base ⟨_, _, rfl, own_kept (own_ext hkv hb35) hg9 hgq, own_kept (own_ext hvv hb35) hg9 hgq⟩ (Nat.le_of_lt hgq)) (by omega))
    · have hd : d = true := by rw [HD.out, bne_iff_ne]; exact cs
      subst hd
      have HR' := Lib.hid (show nextB b = (.zero, 0, 5) from by rw [HR.out, if_pos cs])
      clear cs
      go_wp2_with (first | (refine wpList_store_all rfl 97 (.tmp 2) (.tmp 40) rfl #[.int .i64 0, .bool false, .slice none 0 0, .slice none 0 0, .int .i64 0] hx1 hR rfl rfl (by rfl) (by rfl) ?_; intro w9 hx9 hg9; have hB9 := below_blk hB hB.size hg9 (Nat.le_refl _)) | fail)
      exact bodyPost_ret (results_blk3 (q := 3) (r := 4) rfl hR hx9 rfl rfl rfl) rfl (nextPost_of HR' hB9 (RecO.zero _ _) rfl)
end Go.Mun

