/- The reference: Append, where it says no, and where there is such a file. -/
import Derived.Test.YtdkccaiahgfjoaaFrNames
namespace Go.Mun
open Go Go.RowKit Go.Proofs Go.Maps

section
variable {k p : Nat} {M : FSs} {φ : Nat → Nat} {o : Own} {K L : Nat} {w : World}
set_option maxRecDepth 100000 in
set_option maxHeartbeats 2000000 in
theorem AppR_dead (h : RelR k p M φ o K L w) (n : Ky) (va : Value) (l : List UInt8) (hd : M.dead = true) :
    Calls Try.prog 12 #[.pointer (some ⟨p, 0, none⟩), .string ⟨n.toArray⟩, va] w fun e w' => e = .returned (.bool (goesB M (appOk M n))) ∧ ∃ o' φ', RelR k p (appM M n l) φ' o' (K + 2) (L + l.length) w' ∧ Turn k o o' w w' := by
  obtain ⟨vn, vs, vw, vk, pl, c0, c1, lf, hh⟩ := h.head
  have CF := Lib.hid (find_any φ vn M.now n w (Ents.own hh.now) h.fine.rnow)
  have HR := Lib.hid h
  have hx := hh.blk
  obtain ⟨An, cn, rfl⟩ := row_slC hh.now
  have y0 := hx.cellv (i := 0) rfl
  rw [hd] at hx
  unfold appM
  rw [thenM_no (appOk_dead hd), show goesB M (appOk M n) = false by rw [appOk_dead hd]; rfl]
  clear hh h hd
  go_enter Try.func12, Try.ntmps12
  go_wp2_with (first
    | (go_at_call 32; (with_reducible refine CF.out.mono ?_); rintro e w1 ⟨kx, rfl, PL, hb1⟩; have hx1 := hx.ext hb1; have y8 := hx1.cellv (i := 8) rfl)
    | fail)
  go_ret
  exact ⟨rfl, o, φ, (HR.out.ext hb1).more (by omega) (by omega), Turn.below HR.out.own hb1⟩
set_option maxRecDepth 100000 in
set_option maxHeartbeats 2000000 in
theorem AppR_none (h : RelR k p M φ o K L w) (n : Ky) (va : Value) (l : List UInt8) (hd : M.dead = false) (hg : getP M.now n = none) (hno : n = [] ∨ 100 < n.length ∨ ¬ M.now.length < 200) :
    Calls Try.prog 12 #[.pointer (some ⟨p, 0, none⟩), .string ⟨n.toArray⟩, va] w fun e w' => e = .returned (.bool (goesB M (appOk M n))) ∧ ∃ o' φ', RelR k p (appM M n l) φ' o' (K + 2) (L + l.length) w' ∧ Turn k o o' w w' := by
  obtain ⟨vn, vs, vw, vk, pl, c0, c1, lf, hh⟩ := h.head
  have CF := Lib.hid (find_any φ vn M.now n w (Ents.own hh.now) h.fine.rnow)
  have HR := Lib.hid h
  have hx := hh.blk
  obtain ⟨An, cn, rfl⟩ := row_slC hh.now
  have y0 := hx.cellv (i := 0) rfl
  rw [hd] at hx
  have HG := Lib.hid hg
  have ho : appOk M n = false := by
    rcases hno with h | h | h
    · subst h; exact appOk_name (by decide)
    · exact appOk_name (decide_eq_false fun h2 => by omega)
    · exact appOk_full hg h
  unfold appM
  rw [thenM_no (ho), show goesB M (appOk M n) = false by rw [ho]; rfl]
  clear hh h hd ho
  by_cases h0 : n = []
  · subst h0
    clear hg hno
    go_enter Try.func12, Try.ntmps12
    go_wp2_with (first
      | (go_at_call 32; (with_reducible refine CF.out.mono ?_); rintro e w1 ⟨kx, he, PL, hb1⟩; rw [HG.out] at he; have he2 : e = .returned (.tuple #[.int .i64 (kx : Nat), .bool false]) := he; clear he; subst he2; have HB1 := hb1; have hx1 := hx.ext hb1; have y8 := hx1.cellv (i := 8) rfl; have y0 := hx1.cellv (i := 0) rfl)
      | fail)
    go_ret
    exact ⟨rfl, o, φ, (HR.out.ext hb1).more (by omega) (by omega), Turn.below HR.out.own hb1⟩
  · have q : n.isEmpty = false := by cases n <;> simp_all
    by_cases h1 : 100 < n.length
    · have d : decide ((100 : Int) < (n.length : Int)) = true := decide_eq_true (by omega)
      clear hg hno h0
      go_enter Try.func12, Try.ntmps12
      go_wp2_with (first
        | (go_at_call 32; (with_reducible refine CF.out.mono ?_); rintro e w1 ⟨kx, he, PL, hb1⟩; rw [HG.out] at he; have he2 : e = .returned (.tuple #[.int .i64 (kx : Nat), .bool false]) := he; clear he; subst he2; have HB1 := hb1; have hx1 := hx.ext hb1; have y8 := hx1.cellv (i := 8) rfl; have y0 := hx1.cellv (i := 0) rfl)
        | fail)
      go_ret
      exact ⟨rfl, o, φ, (HR.out.ext hb1).more (by omega) (by omega), Turn.below HR.out.own hb1⟩
    · have d : decide ((100 : Int) < (n.length : Int)) = false := decide_eq_false (by omega)
      have h2 : ¬ M.now.length < 200 := by
        rcases hno with h | h | h
        · exact absurd h h0
        · exact absurd h h1
        · exact h
      have d2 : decide ((200 : Int) ≤ (M.now.length : Int)) = true := decide_eq_true (by omega)
      clear hg hno h0
      go_enter Try.func12, Try.ntmps12
      go_wp2_with (first
        | (go_at_call 32; (with_reducible refine CF.out.mono ?_); rintro e w1 ⟨kx, he, PL, hb1⟩; rw [HG.out] at he; have he2 : e = .returned (.tuple #[.int .i64 (kx : Nat), .bool false]) := he; clear he; subst he2; have HB1 := hb1; have hx1 := hx.ext hb1; have y8 := hx1.cellv (i := 8) rfl; have y0 := hx1.cellv (i := 0) rfl)
        | fail)
      go_ret
      exact ⟨rfl, o, φ, (HR.out.ext hb1).more (by omega) (by omega), Turn.below HR.out.own hb1⟩
set_option maxRecDepth 100000 in
set_option maxHeartbeats 2000000 in
theorem AppR_oldoff (h : RelR k p M φ o K L w) (n : Ky) (va : Value) (l : List UInt8) (hd : M.dead = false) {i : Nat} (hg : getP M.now n = some i) (hf : failsB M = true) (CO0 : OpAny k p M o K L w) :
    Calls Try.prog 12 #[.pointer (some ⟨p, 0, none⟩), .string ⟨n.toArray⟩, va] w fun e w' => e = .returned (.bool (goesB M (appOk M n))) ∧ ∃ o' φ', RelR k p (appM M n l) φ' o' (K + 2) (L + l.length) w' ∧ Turn k o o' w w' := by
  have CO := Lib.hid CO0
  obtain ⟨vn, vs, vw, vk, pl, c0, c1, lf, hh⟩ := h.head
  have CF := Lib.hid (find_any φ vn M.now n w (Ents.own hh.now) h.fine.rnow)
  have HR := Lib.hid h
  have hx := hh.blk
  obtain ⟨An, cn, rfl⟩ := row_slC hh.now
  have y0 := hx.cellv (i := 0) rfl
  rw [hd] at hx
  have HG := Lib.hid hg
  have HF := Lib.hid hf
  have HOK := Lib.hid (appOk_old hd (decide_eq_true (p := n ≠ [] ∧ n.length ≤ 100) (h.fine.names _ (getP_mem hg))) hg)
  clear hh h hd hg hf CO0
  go_enter Try.func12, Try.ntmps12
  go_wp2_with (first
    | (go_at_call 32; (with_reducible refine CF.out.mono ?_); rintro e w1 ⟨kx, he, PL, hb1⟩; rw [HG.out] at he; have he2 : e = .returned (.tuple #[.int .i64 (kx : Nat), .bool true]) := he; clear he; subst he2; have HB1 := hb1; have hx1 := hx.ext hb1; have y8 := hx1.cellv (i := 8) rfl)
    | (go_at_call 33; (with_reducible refine (CO.out.at_ _ HB1).mono ?_); rintro e w2 ⟨he, o2, φ2, h2, T2⟩; rw [HF.out] at he; have he3 : e = .returned (.bool false) := he; clear he; subst he3)
    | fail)
  go_ret
  unfold appM
  rw [thenM_off HOK.out HF.out]
  exact ⟨by unfold goesB; rw [HF.out, HOK.out]; rfl, o2, φ2, h2.more (by omega) (by omega), (Turn.below HR.out.own HB1).trans T2⟩
set_option maxRecDepth 100000 in
set_option maxHeartbeats 2000000 in
theorem AppR_newoff (h : RelR k p M φ o K L w) (n : Ky) (va : Value) (l : List UInt8) (hd : M.dead = false) (hg : getP M.now n = none) (hnm : NameOk n) (hsz : M.now.length < 200) (hf : failsB M = true) (CO0 : OpAny k p M o K L w) :
    Calls Try.prog 12 #[.pointer (some ⟨p, 0, none⟩), .string ⟨n.toArray⟩, va] w fun e w' => e = .returned (.bool (goesB M (appOk M n))) ∧ ∃ o' φ', RelR k p (appM M n l) φ' o' (K + 2) (L + l.length) w' ∧ Turn k o o' w w' := by
  have CO := Lib.hid CO0
  obtain ⟨vn, vs, vw, vk, pl, c0, c1, lf, hh⟩ := h.head
  have CF := Lib.hid (find_any φ vn M.now n w (Ents.own hh.now) h.fine.rnow)
  have HR := Lib.hid h
  have hx := hh.blk
  obtain ⟨An, cn, rfl⟩ := row_slC hh.now
  have y0 := hx.cellv (i := 0) rfl
  rw [hd] at hx
  have HG := Lib.hid hg
  have HF := Lib.hid hf
  have HOK := Lib.hid (appOk_new hd (decide_eq_true (p := n ≠ [] ∧ n.length ≤ 100) hnm) hg hsz)
  have q : n.isEmpty = false := by have := hnm.1; cases n <;> simp_all
  have hl2 := hnm.2
  have d : decide ((100 : Int) < (n.length : Int)) = false := decide_eq_false (by omega)
  have d2 : decide ((200 : Int) ≤ (M.now.length : Int)) = false := decide_eq_false (by omega)
  clear hh h hd hg hf CO0 hnm
  go_enter Try.func12, Try.ntmps12
  go_wp2_with (first
    | (go_at_call 32; (with_reducible refine CF.out.mono ?_); rintro e w1 ⟨kx, he, PL, hb1⟩; rw [HG.out] at he; have he2 : e = .returned (.tuple #[.int .i64 (kx : Nat), .bool false]) := he; clear he; subst he2; have HB1 := hb1; have hx1 := hx.ext hb1; have y8 := hx1.cellv (i := 8) rfl; have y0 := hx1.cellv (i := 0) rfl)
    | (go_at_call 33; (with_reducible refine (CO.out.at_ _ HB1).mono ?_); rintro e w2 ⟨he, o2, φ2, h2, T2⟩; rw [HF.out] at he; have he3 : e = .returned (.bool false) := he; clear he; subst he3)
    | fail)
  go_ret
  unfold appM
  rw [thenM_off HOK.out HF.out]
  exact ⟨by unfold goesB; rw [HF.out, HOK.out]; rfl, o2, φ2, h2.more (by omega) (by omega), (Turn.below HR.out.own HB1).trans T2⟩
set_option maxRecDepth 100000 in
set_option maxHeartbeats 2000000 in
theorem AppR_old (h : RelR k p M φ o K L w) (n : Ky) (va : Value) (l : List UInt8) (hv : Bytes w va l) (hvf : Free o k va) (hl : l.length ≤ 1000000000) (hL : L ≤ 1000000000) (hd : M.dead = false) {i : Nat} (hg : getP M.now n = some i) (hf : failsB M = false) (CO0 : OpAny k p M o K L w) :
    Calls Try.prog 12 #[.pointer (some ⟨p, 0, none⟩), .string ⟨n.toArray⟩, va] w fun e w' => e = .returned (.bool (goesB M (appOk M n))) ∧ ∃ o' φ', RelR k p (appM M n l) φ' o' (K + 2) (L + l.length) w' ∧ Turn k o o' w w' := by
  have CO := Lib.hid CO0
  have hbT := bytesTyC
  have HBY := Lib.hid (fun (w1 : World) (hb : Below w.heap.size w w1) (o' : Own) (w' : World) (T : Turn k o o' w1 w') => (hv.ext hb).turn T hvf)
  obtain ⟨Av, nv, cv, rfl⟩ : ∃ A n c, va = .slice A n c := by obtain ⟨A, n, c, e, _⟩ := hv; exact ⟨A, n, c, e⟩
  obtain ⟨vn, vs, vw, vk, pl, c0, c1, lf, hh⟩ := h.head
  have CF := Lib.hid (find_any φ vn M.now n w (Ents.own hh.now) h.fine.rnow)
  have HR := Lib.hid h
  have hx := hh.blk
  obtain ⟨An, cn, rfl⟩ := row_slC hh.now
  have y0 := hx.cellv (i := 0) rfl
  rw [hd] at hx
  have HG := Lib.hid hg
  have HF := Lib.hid hf
  have HOK := Lib.hid (appOk_old hd (decide_eq_true (p := n ≠ [] ∧ n.length ≤ 100) (h.fine.names _ (getP_mem hg))) hg)
  clear hh h hd hg hf CO0 hv hvf
  go_enter Try.func12, Try.ntmps12
  go_upto_region 12 with (first
    | (go_at_call 32; (with_reducible refine CF.out.mono ?_); rintro e w1 ⟨kx, he, PL, hb1⟩; rw [HG.out] at he; have he2 : e = .returned (.tuple #[.int .i64 (kx : Nat), .bool true]) := he; clear he; subst he2; have HB1 := hb1; have hx1 := hx.ext hb1; have y8 := hx1.cellv (i := 8) rfl)
    | (go_at_call 33; (with_reducible refine (CO.out.at_ _ HB1).mono ?_); rintro e w2 ⟨he, o2, φ2, h2, T2⟩; rw [HF.out] at he; have he3 : e = .returned (.bool true) := he; clear he; subst he3)
    | fail)
  have hg1 : getP (failsM M).now n = some i := by rw [goes_now HF.out]; exact HG.out
  obtain ⟨vn2, vs2, vw2, vk2, pl2, d0, d1, lf2, hh2⟩ := h2.head
  obtain ⟨A2, cn2, rfl⟩ := row_slC hh2.now
  obtain ⟨i2, ad, ea, hc⟩ := RelR.found2 hh2 hg1 (by rw [goes_now HF.out]; exact PL)
  subst ea
  have i1 := Int.natCast_nonneg kx
  obtain ⟨A, c, s0, l0, hs0, hl0, f1, f2, f3, f4, f5, f6⟩ := h2.at_file (Live.of_now hg1)
  have RX := Lib.hid h2
  have TX := Lib.hid ((Turn.below HR.out.own HB1).trans T2)
  have HBA := HBY.out _ HB1 _ _ T2
  have HBX := Bytes.own f3
  have hx2 := hh2.blk
  have y0' := hx2.cellv (i := 0) rfl
  have z0 := f1.cellv (i := 0) rfl
  have FX := f1
  have F2 := Lib.hid f2
  have HL0 := Lib.hid hl0
  have HS0 := Lib.hid hs0
  clear h2 T2 hh2 f1 f2 f3 f4 hg1 hl0 hs0 PL y0 y8 hx1 hx
  go_wp2_with (first
    | (at_builtin; refine wpList_append_bytes rfl (.const (.slice none 0 0)) (.tmp 96) _ rfl w2.heap.size hbT (xs := []) rfl (World.ownsRow_nil _ _ _ _) rfl HBX (by omega) (Nat.le_refl _) ?_; intro v3 w3 ho3 hg3 hat3; rw [List.nil_append, Nat.zero_add] at ho3; have hb3 : Below w2.heap.size w2 w3 := ⟨hg3.os, hg3.tape, hg3.output, hg3.size, fun k hk => hg3.block k hk (fun e => by cases e)⟩; have hB3 := HBA.ext hb3; clear hg3 hat3)
    | (at_builtin; refine wpList_append_bytes rfl (.tmp 97) (.tmp 98) _ rfl w2.heap.size hbT rfl ho3 rfl hB3 (by omega) hb3.size ?_; intro v4 w4 ho4 hg4 hat4; have hb4 := below_own hb3 ho3 (Nat.le_refl _) hg4 hb3.size; have hx4 := FX.ext hb4)
    | ((with_reducible refine gd_store ?_); refine wpList_store_cell rfl 26 (.tmp 101) (.tmp 99) rfl (i := 0) (v := v4) hx4 (show 0 < 2 by decide) (by kernel_rfl) (own_one ho4) rfl rfl ?_; intro w5 hx5 hg5)
    | fail)
  go_ret
  have ho := RX.out.own
  have hfl := ho.lt F2.out
  have s4 := hb4.size
  have s5 := hg5.size
  have st : ∀ {b : Nat} {t : Tag}, o2 b = some (k, t) → t ≠ .file i → t ≠ .byt i → w5.heap[b]? = w2.heap[b]? := fun {b t} e n1 _ => by
    have hb := ho.lt e
    rw [same_of hg5 (by omega) e (one_some F2.out) n1, hb4.block b hb]
  have TT : Turn k o2 o2 w2 w5 := (Turn.below ho hb4).trans (Turn.wrote (ho.more s4) hg5 F2.out)
  have hv4 : w5.ownsRow 0 5 1 v4 (l0.length + l.length) (bv (l0 ++ l)) := own_base (own_same ho4 fun g hg => hg5.block g (ho4.lt g hg).2 fun e => by
    injection e with e
    subst e
    have := (ho4.lt _ hg).1
    omega) (Nat.zero_le _)
  obtain ⟨o', q1, q2, q3, q4⟩ : ∃ o' : Own, (∀ b, b < w2.heap.size → o' b = o2 b) ∧ OwnIn o' w5 ∧ (∀ g, v4.ownBlock = some g → o' g = some (k, .byt i)) ∧ Turn k o2 o' w2 w5 := by
    cases hv : v4.ownBlock with
    | none => exact ⟨o2, fun _ _ => rfl, ho.more TT.size, fun g hg => (by cases hg), TT⟩
    | some g =>
      have hlt := ho4.lt g hv
      refine ⟨give o2 g (k, .byt i), fun b hb => give_ne (by omega), (ho.more TT.size).give (by omega) _, fun g' hg => ?_, TT.give hlt.1 _⟩
      injection hg with hg
      subst hg
      exact give_same _ _ _
  have ex : ∀ {b : Nat} {x : Nat × Tag}, o2 b = some x → o' b = some x := fun e => by rw [q1 _ (ho.lt e)]; exact e
  have hfin : RelR k p (app0 i l (failsM M)) φ2 o' (K + 2) (L + l.length) w5 := by
    refine RelR.file_set (RX.out.more (by omega) (Nat.le_refl _)) st ex q2 ⟨v4, ?_, ex F2.out, ?_, q3⟩ ?_ (by omega) ?_
    · show Blk w5 (φ2 i) _ #[v4, .int .i64 (((failsM M).fs i).s : Nat)]
      rw [HS0.out]
      exact hx5
    · show w5.ownsRow 0 _ 1 v4 (((failsM M).fs i).b ++ l).length (bv (((failsM M).fs i).b ++ l))
      rw [HL0.out, List.length_append]
      exact hv4
    · show (((failsM M).fs i).b ++ l).length ≤ L + l.length
      rw [List.length_append, HL0.out]
      omega
    · show ((failsM M).fs i).s ≤ (((failsM M).fs i).b ++ l).length
      rw [List.length_append, HL0.out, HS0.out]
      omega
  refine ⟨by unfold goesB; rw [HF.out, HOK.out]; rfl, o', φ2, ?_, TX.out.trans q4⟩
  unfold appM
  rw [thenM_go HOK.out HF.out, app1, goes_now HF.out, HG.out]
  exact hfin
end
end Go.Mun
