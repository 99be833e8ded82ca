/- Append. -/
import Derived.Test.YtdkccaiahgfjoaaFsApp
namespace Go.Mun
open Go Go.RowKit Go.Proofs Go.Maps

section
variable {k p : Nat} {M : FSs} {φ : Nat → Nat} {o : Own} {K L : Nat} {w : World}
set_option maxRecDepth 100000 in
set_option maxHeartbeats 2000000 in
theorem Append_any (h : RelP k p M φ o K L w) (n : Ky) (hn : n.length ≤ 1000000) (va : Value) (l : List UInt8) (hv : Bytes w va l) (hvf : Free o k va) (hl : l.length ≤ 1000000000) (hK : K < 1000000000) (hL : L ≤ 1000000000) :
    Calls Try.prog 11 #[.pointer (some ⟨p, 0, none⟩), .string ⟨n.toArray⟩, va] w fun e w' => e = .returned (.bool (goesB M (appOk M n))) ∧ ∃ o' φ', RelP k p (appM M n l) φ' o' (K + 2) (L + l.length) w' ∧ Turn k o o' w w' := by
  have CN := Lib.hid (fun w => named_any n w hn)
  have HR := Lib.hid h
  have CF := Lib.hid (fails_any h (by omega) hL)
  have HBY := Lib.hid (fun (o' : Own) (w' : World) (T : Turn k o o' w w') => hv.turn T hvf)
  obtain ⟨Av, nv, cv, rfl⟩ : ∃ A n c, va = .slice A n c := by obtain ⟨A, n, c, e, _⟩ := hv; exact ⟨A, n, c, e⟩
  obtain ⟨bn, bs, vw, vk, hh⟩ := h.head
  obtain ⟨N, hN, hNK⟩ := hh.now
  have y0 := hh.blk.cellv (i := 0) rfl
  have y6 := hh.blk.cellv (i := 6) rfl
  have esz : Maps.size (encM (idT φ M.now)) = M.now.length := by rw [enc_size]; unfold idT mapP; rw [List.length_map]
  have ql := World.ownsMap.len hN namesTy 3
  rw [esz] at ql
  have hm : n.length ≤ maxLen := by unfold maxLen; omega
  cases hg : getP M.now n with
  | some i =>
    have q := hN.look namesTy (zFileP w) hm (idT_get hg)
    have HG := Lib.hid hg
    cases hd : M.dead
    · rw [hd] at y6
      cases hnm : namedB n
      · rw [hnm] at CN
        unfold appM
        rw [thenM_no (appOk_name hnm), show goesB M (appOk M n) = false by rw [appOk_name hnm]; rfl]
        clear hh hN hg hd hnm h hv hvf
        go_enter Try.func11, Try.ntmps11
        go_wp2_with (first
          | (go_at_call 29; (with_reducible refine (CN.out _).mono ?_); rintro e wn ⟨rfl, rfl⟩)
          | fail)
        go_ret
        exact ⟨rfl, o, φ, HR.out.more (by omega) (by omega), Turn.refl HR.out.own⟩
      · rw [hnm] at CN
        have HO := Lib.hid (appOk_old hd hnm hg)
        cases hf : failsB M
        · rw [hf] at CF
          have HF := Lib.hid hf
          clear hh hN hg hd hnm h hv hvf hf
          go_enter Try.func11, Try.ntmps11
          go_upto_region 7 with (first
            | (go_at_call 29; (with_reducible refine (CN.out _).mono ?_); rintro e wn ⟨rfl, rfl⟩)
            | (go_at_call 30; (with_reducible refine CF.out.mono ?_); rintro e w1 ⟨rfl, o1, h1, T1⟩)
            | fail)
          have hX := h1
          have TX := T1
          have hlX : Live (failsM M) i := Live.of_now (n := n) (by rw [goes_now HF.out]; exact HG.out)
          clear h1 T1
          obtain ⟨A, c, s0, l0, hs0, hl0, f1, f2, f3, f4, f5, hbl⟩ := RelP.at_file hX hlX
          have RX := Lib.hid hX
          have TX' := Lib.hid TX
          have HLX := Lib.hid hlX
          have z0 := f1.cellv (i := 0) rfl
          have hB := HBY.out _ _ TX
          have F2 := Lib.hid f2
          have F4 := Lib.hid f4
          have HL0 := Lib.hid hl0
          have HS0 := Lib.hid hs0
          clear hX TX hlX hl0 hs0 f2 f4
          have hbT := bytesTyC
          go_wp2_with (first
            | (at_builtin; refine wpList_append_bytes rfl (.tmp 53) (.tmp 54) _ rfl 0 hbT (v := .slice A l0.length c) rfl f3 rfl hB (by omega) (Nat.zero_le _) ?_; intro v3 w3 ho3 hg3 hat3; have hx3 := f1.grown hg3 (by intro e; have := F4.out _ e.symm; rw [F2.out] at this; cases this))
            | ((with_reducible refine gd_store ?_); refine wpList_store_cell rfl 26 (.tmp 57) (.tmp 55) rfl (i := 0) (v := v3) hx3 (show 0 < 2 by decide) (by kernel_rfl) (own_one ho3) rfl rfl ?_; intro w4 hx4 hg4)
            | fail)
          go_ret
          have ho := RX.out.own
          have s3 := hg3.size
          have s4 := hg4.size
          have TT : Turn k o1 o1 w1 w4 := (Turn.row ho hg3 F4.out).trans (Turn.wrote (ho.more s3) hg4 F2.out)
          have hf2 := ho.lt F2.out
          have st : ∀ {b : Nat} {t : Tag}, o1 b = some (k, t) → t ≠ .file i → t ≠ .byt i → w4.heap[b]? = w1.heap[b]? := fun {b t} e n1 n2 => by
            have hb := ho.lt e
            rw [same_of hg4 (by omega) e (one_some F2.out) n1, same_of hg3 hb e F4.out n2]
          have hv3 : w4.ownsRow 0 5 1 v3 (l0.length + l.length) (bv (l0 ++ l)) := own_same ho3 fun g hg => hg4.block g (ho3.lt g hg).2 fun e => by
            injection e with e
            subst e
            rcases hat3 with h3 | h3
            · have := F4.out _ (h3 ▸ hg)
              rw [F2.out] at this
              cases this
            · rw [h3] at hg
              injection hg with hg
              omega
          obtain ⟨o', q1, q2, q3, q4⟩ : ∃ o' : Own, (∀ b, b < w1.heap.size → o' b = o1 b) ∧ OwnIn o' w4 ∧ (∀ g, v3.ownBlock = some g → o' g = some (k, .byt i)) ∧ Turn k o1 o' w1 w4 := by
            rcases hat3 with h3 | h3
            · exact ⟨o1, fun _ _ => rfl, ho.more TT.size, fun g hg => F4.out g (h3 ▸ hg), TT⟩
            · have hlt : w1.heap.size < w3.heap.size := (ho3.lt _ h3).2
              refine ⟨give o1 w1.heap.size (k, .byt i), fun b hb => give_ne (by omega), (ho.more TT.size).give (by omega) _, fun g hg => ?_, TT.give (Nat.le_refl _) _⟩
              rw [h3] at hg
              injection hg with hg
              subst hg
              exact give_same _ _ _
          have ex : ∀ {b : Nat} {x : Nat × Tag}, o1 b = some x → o' b = some x := fun e => by rw [q1 _ (ho.lt e)]; exact e
          have hfin : RelP k p (app0 i l (failsM M)) φ o' (K + 2) (L + l.length) w4 := by
            refine RelP.file_set (RX.out.more (by omega) (Nat.le_refl _)) st ex q2 ⟨v3, ?_, ex F2.out, ?_, q3⟩ ?_ (by omega) ?_
            · show Blk w4 (φ i) _ #[v3, .int .i64 (((failsM M).fs i).s : Nat)]
              rw [HS0.out]
              exact hx4
            · show w4.ownsRow 0 _ 1 v3 (((failsM M).fs i).b ++ l).length (bv (((failsM M).fs i).b ++ l))
              rw [HL0.out, List.length_append]
              exact hv3
            · show (((failsM M).fs i).b ++ l).length ≤ L + l.length
              rw [List.length_append, HL0.out]
              omega
            · show ((failsM M).fs i).s ≤ (((failsM M).fs i).b ++ l).length
              rw [List.length_append, HL0.out, HS0.out]
              omega
          refine ⟨by unfold goesB; rw [HF.out, HO.out]; rfl, o', φ, ?_, TX'.out.trans q4⟩
          unfold appM
          rw [thenM_go HO.out HF.out, app1, goes_now HF.out, HG.out]
          exact hfin
        · rw [hf] at CF
          have HF := Lib.hid hf
          clear hh hN hg hd hnm h hv hvf hf
          go_enter Try.func11, Try.ntmps11
          go_wp2_with (first
            | (go_at_call 29; (with_reducible refine (CN.out _).mono ?_); rintro e wn ⟨rfl, rfl⟩)
            | (go_at_call 30; (with_reducible refine CF.out.mono ?_); rintro e w1 ⟨rfl, o1, h1, T1⟩)
            | fail)
          go_ret
          unfold appM
          rw [thenM_off HO.out HF.out]
          exact ⟨by unfold goesB; rw [HF.out, HO.out]; rfl, o1, φ, h1.more (by omega) (by omega), T1⟩
    · rw [hd] at y6
      unfold appM
      rw [thenM_no (appOk_dead hd), show goesB M (appOk M n) = false by rw [appOk_dead hd]; rfl]
      clear hh hN hg hd h hv hvf
      go_enter Try.func11, Try.ntmps11
      go_wp2_with (first
        | (go_at_call 29; (with_reducible refine (CN.out _).mono ?_); rintro e wn ⟨rfl, rfl⟩)
        | fail)
      go_ret
      exact ⟨rfl, o, φ, HR.out.more (by omega) (by omega), Turn.refl HR.out.own⟩
  | none =>
    have q := hN.look_none namesTy (zFileP w) hm (idT_none hg)
    have HG := Lib.hid hg
    cases hd : M.dead
    · rw [hd] at y6
      cases hnm : namedB n
      · rw [hnm] at CN
        unfold appM
        rw [thenM_no (appOk_name hnm), show goesB M (appOk M n) = false by rw [appOk_name hnm]; rfl]
        clear hh hN hg hd hnm h hv hvf
        go_enter Try.func11, Try.ntmps11
        go_wp2_with (first
          | (go_at_call 29; (with_reducible refine (CN.out _).mono ?_); rintro e wn ⟨rfl, rfl⟩)
          | fail)
        go_ret
        exact ⟨rfl, o, φ, HR.out.more (by omega) (by omega), Turn.refl HR.out.own⟩
      · rw [hnm] at CN
        by_cases hsz : M.now.length < 200
        · have HO := Lib.hid (appOk_new hd hnm hg hsz)
          have HNM := Lib.hid (namedB_ok hnm)
          have f1 : decide ((200 : Int) ≤ (M.now.length : Int)) = false := decide_eq_false (by omega)
          cases hf : failsB M
          · rw [hf] at CF
            have HF := Lib.hid hf
            clear hh hg hd hnm h hv hvf hf
            go_enter Try.func11, Try.ntmps11
            go_upto_region 6 with (first
              | (go_at_call 29; (with_reducible refine (CN.out _).mono ?_); rintro e wn ⟨rfl, rfl⟩)
              | (go_at_call 30; (with_reducible refine CF.out.mono ?_); rintro e w1 ⟨rfl, o1, h1, T1⟩)
              | ((with_reducible refine gd_box ?_); refine wpList_box_agg rfl _ (.tmp 41) rfl rfl ?_; intro w3 hx3 hb3 hl3)
              | fail)
            obtain ⟨φ', p1, p2⟩ : ∃ φ' : Nat → Nat, φ' (failsM M).next = w1.heap.size ∧ ∀ j, j ≠ (failsM M).next → φ' j = φ j := ⟨fun j => if j = (failsM M).next then w1.heap.size else φ j, if_pos rfl, fun j hj => if_neg hj⟩
            obtain ⟨h2, hfa⟩ := RelP.newF h1 hb3 hx3 p1 p2
            have T3 := (Turn.below (k := k) h1.own hb3).give (Nat.le_refl _) (.file (failsM M).next)
            have P1 := Lib.hid p1
            have e0 : (newF (failsM M)).fs (failsM M).next = ⟨[], 0⟩ := if_pos rfl
            have F2n : ∀ n' i, Chg.made n (failsM M).next = .made n' i → i < (newF (failsM M)).next ∧ FileAt k φ' (give o1 w1.heap.size (k, .file (failsM M).next)) w3 i ((newF (failsM M)).fs i) ∧ ((newF (failsM M)).fs i).b.length ≤ L := fun n' i e => by
              injection e with e1 e2
              subst e2
              rw [e0]
              exact ⟨Nat.lt_succ_self _, hfa, Nat.zero_le _⟩
            have CW2 := wait_any h2 (.made n (failsM M).next) (show NameOk n ∧ ∀ p ∈ (failsM M).now, p.2 ≠ (failsM M).next from ⟨HNM.out, fun p hp => by have := h1.fine.fresh p hp; omega⟩) F2n (by omega)
            simp only [chgV, P1.out] at CW2
            have CW := Lib.hid CW2
            clear h2 hfa F2n CW2 hx3
            have hbT := bytesTyC
            obtain ⟨MZ, hMZ⟩ : ∃ x, x = waitM (newF (failsM M)) (.made n (failsM M).next) := ⟨_, rfl⟩
            rw [← hMZ] at CW
            have HLX := Lib.hid (show Live MZ (failsM M).next by rw [hMZ]; exact .inr (.inr ⟨n, List.mem_append.2 (.inr (List.mem_singleton.2 rfl))⟩))
            have HMZ := Lib.hid hMZ
            have T13 := Lib.hid (T1.trans T3)
            clear h1 T1 T3 p1 p2 hMZ e0
            go_wp2_with (first
              | (go_at_call 31; (with_reducible refine CW.out.mono ?_); rintro e w5 ⟨rfl, o3, h3, T5⟩; obtain ⟨A, c, s0, l0, hs0, hl0, f1, f2, f3, f4, f5, hbl⟩ := RelP.at_file h3 HLX.out; rw [P1.out] at f1; have RX := Lib.hid h3; have TX' := Lib.hid (T13.out.trans T5); have z0 := f1.cellv (i := 0) rfl; have hB := HBY.out _ _ TX'.out; have F2 := Lib.hid f2; have F4 := Lib.hid f4; have HL0 := Lib.hid hl0; have HS0 := Lib.hid hs0; clear h3 T5 hl0 hs0 f2 f4)
              | (at_builtin; refine wpList_append_bytes rfl (.tmp 53) (.tmp 54) _ rfl 0 hbT (v := .slice A l0.length c) rfl f3 rfl hB (by omega) (Nat.zero_le _) ?_; intro v3 w3 ho3 hg3 hat3; have hx3 := f1.grown hg3 (by intro e; have := F4.out _ e.symm; have f2 := F2.out; rw [P1.out] at f2; rw [f2] at this; cases this))
              | ((with_reducible refine gd_store ?_); refine wpList_store_cell rfl 26 (.tmp 57) (.tmp 55) rfl (i := 0) (v := v3) hx3 (show 0 < 2 by decide) (by kernel_rfl) (own_one ho3) rfl rfl ?_; intro w4 hx4 hg4)
              | fail)
            go_ret
            have ho := RX.out.own
            rw [← P1.out] at hx4 hg4
            have s3 := hg3.size
            have s4 := hg4.size
            have TT : Turn k o3 o3 w5 w4 := (Turn.row ho hg3 F4.out).trans (Turn.wrote (ho.more s3) hg4 F2.out)
            have hf2 := ho.lt F2.out
            have st : ∀ {b : Nat} {t : Tag}, o3 b = some (k, t) → t ≠ .file (failsM M).next → t ≠ .byt (failsM M).next → w4.heap[b]? = w5.heap[b]? := fun {b t} e n1 n2 => by
              have hb := ho.lt e
              rw [same_of hg4 (by omega) e (one_some F2.out) n1, same_of hg3 hb e F4.out n2]
            have hv3 : w4.ownsRow 0 5 1 v3 (l0.length + l.length) (bv (l0 ++ l)) := own_same ho3 fun g hg => hg4.block g (ho3.lt g hg).2 fun e => by
              injection e with e
              subst e
              rcases hat3 with h3 | h3
              · have := F4.out _ (h3 ▸ hg)
                rw [F2.out] at this
                cases this
              · rw [h3] at hg
                injection hg with hg
                omega
            obtain ⟨o', q1, q2, q3, q4⟩ : ∃ o' : Own, (∀ b, b < w5.heap.size → o' b = o3 b) ∧ OwnIn o' w4 ∧ (∀ g, v3.ownBlock = some g → o' g = some (k, .byt (failsM M).next)) ∧ Turn k o3 o' w5 w4 := by
              rcases hat3 with h3 | h3
              · exact ⟨o3, fun _ _ => rfl, ho.more TT.size, fun g hg => F4.out g (h3 ▸ hg), TT⟩
              · have hlt : w5.heap.size < w3.heap.size := (ho3.lt _ h3).2
                refine ⟨give o3 w5.heap.size (k, .byt (failsM M).next), fun b hb => give_ne (by omega), (ho.more TT.size).give (by omega) _, fun g hg => ?_, TT.give (Nat.le_refl _) _⟩
                rw [h3] at hg
                injection hg with hg
                subst hg
                exact give_same _ _ _
            have ex : ∀ {b : Nat} {x : Nat × Tag}, o3 b = some x → o' b = some x := fun e => by rw [q1 _ (ho.lt e)]; exact e
            have hfin : RelP k p (app0 (failsM M).next l MZ) φ' o' (K + 2) (L + l.length) w4 := by
              refine RelP.file_set (RX.out.more (by omega) (Nat.le_refl _)) st ex q2 ⟨v3, ?_, ex F2.out, ?_, q3⟩ ?_ (by omega) ?_
              · show Blk w4 (φ' (failsM M).next) _ #[v3, .int .i64 ((MZ.fs (failsM M).next).s : Nat)]
                rw [HS0.out]
                exact hx4
              · show w4.ownsRow 0 _ 1 v3 ((MZ.fs (failsM M).next).b ++ l).length (bv ((MZ.fs (failsM M).next).b ++ l))
                rw [HL0.out, List.length_append]
                exact hv3
              · show ((MZ.fs (failsM M).next).b ++ l).length ≤ L + l.length
                rw [List.length_append, HL0.out]
                omega
              · show (MZ.fs (failsM M).next).s ≤ ((MZ.fs (failsM M).next).b ++ l).length
                rw [List.length_append, HL0.out, HS0.out]
                omega
            refine ⟨by unfold goesB; rw [HF.out, HO.out]; rfl, o', φ', ?_, TX'.out.trans q4⟩
            unfold appM
            rw [thenM_go HO.out HF.out, app1, goes_now HF.out, HG.out]
            have := HMZ.out
            subst this
            exact hfin
          · rw [hf] at CF
            have HF := Lib.hid hf
            clear hh hg hd hnm h hv hvf hf
            go_enter Try.func11, Try.ntmps11
            go_wp2_with (first
              | (go_at_call 29; (with_reducible refine (CN.out _).mono ?_); rintro e wn ⟨rfl, rfl⟩)
              | (go_at_call 30; (with_reducible refine CF.out.mono ?_); rintro e w1 ⟨rfl, o1, h1, T1⟩)
              | fail)
            go_ret
            unfold appM
            rw [thenM_off HO.out HF.out]
            exact ⟨by unfold goesB; rw [HF.out, HO.out]; rfl, o1, φ, h1.more (by omega) (by omega), T1⟩
        · have f1 : decide ((200 : Int) ≤ (M.now.length : Int)) = true := decide_eq_true (by omega)
          unfold appM
          rw [thenM_no (appOk_full hg hsz), show goesB M (appOk M n) = false by rw [appOk_full hg hsz]; rfl]
          clear hh hg hd hnm h hv hvf
          go_enter Try.func11, Try.ntmps11
          go_wp2_with (first
            | (go_at_call 29; (with_reducible refine (CN.out _).mono ?_); rintro e wn ⟨rfl, rfl⟩)
            | fail)
          go_ret
          exact ⟨rfl, o, φ, HR.out.more (by omega) (by omega), Turn.refl HR.out.own⟩
    · rw [hd] at y6
      unfold appM
      rw [thenM_no (appOk_dead hd), show goesB M (appOk M n) = false by rw [appOk_dead hd]; rfl]
      clear hh hN hg hd h hv hvf
      go_enter Try.func11, Try.ntmps11
      go_wp2_with (first
        | (go_at_call 29; (with_reducible refine (CN.out _).mono ?_); rintro e wn ⟨rfl, rfl⟩)
        | fail)
      go_ret
      exact ⟨rfl, o, φ, HR.out.more (by omega) (by omega), Turn.refl HR.out.own⟩
end
end Go.Mun
