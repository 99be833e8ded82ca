/- The reference: set. -/
import Derived.Test.YtdkccaiahgfjoaaFrFind
import Derived.Test.YtdkccaiahgfjoaaFsCutR
import Derived.Test.YtdkccaiahgfjoaaRowOne
namespace Go.Mun
open Go Go.RowKit Go.Proofs Go.Maps

set_option maxRecDepth 100000 in
set_option maxHeartbeats 2000000 in
theorem set_put_new (φ : Nat → Nat) (v : Value) (P : PL Nat) (n : Ky) (i : Nat) (w : World) (h : Ents φ w v P) (hP : Rises P) (hl : P.length ≤ 1000000) (hg : getP P n = none) :
    Calls Try.prog 47 #[v, .string ⟨n.toArray⟩, .pointer (some ⟨φ i, 0, none⟩)] w fun e w' => ∃ v', e = .returned v' ∧ w'.ownsRow w.heap.size 75 2 v' (setP P n (some i)).length (erow φ (setP P n (some i))) ∧ Below w.heap.size w w' := by
  have hT := entsTy
  obtain ⟨Ad, c, rfl, h1, h2, h3⟩ := id h.at_
  have HR := Lib.hid h3
  unfold maxLen at h2
  obtain ⟨N, hN⟩ : ∃ N, N = P.length := ⟨_, rfl⟩
  rw [← hN] at h1 hl h ⊢
  have HN := Lib.hid hN
  clear h3 hN
  have CF := Lib.hid (fun w1 (hb : Below w.heap.size w w1) => find_any φ _ P n w1 (h.ext hb) hP)
  have HG := Lib.hid hg
  clear hg
  go_enter Try.func47, Try.ntmps47
  go_upto_region 2 with (first
    | (go_at_call 32; (with_reducible refine (CF.out _ (Below.refl _ _)).mono ?_); rintro e w1 ⟨k, he, PL, hb1⟩; rw [HG.out] at he; have he2 : e = .returned (.tuple #[.int .i64 (k : Nat), .bool false]) := he; clear he; subst he2)
    | fail)
  obtain ⟨X, Y, hXY, hk, hX, hY⟩ := PL
  have hY' : ∀ p ∈ Y, ltB n p.1 = true := by
    rcases hY with ⟨i, B', _, h, _⟩ | ⟨_, h⟩
    · rw [HG.out] at h; cases h
    · exact h
  have hset : setP P n (some i) = X ++ ((Option.map (fun v => (n, v)) (some i)).toList ++ Y) := by rw [hXY]; exact setP_split hX hY'
  have hN : N = k + Y.length := by rw [HN.out, hXY, hk, List.length_append]
  have ed : (erow φ P).drop (k * 2) = erow φ Y := by rw [hXY, hk]; exact erow_drop φ X Y
  have et : (erow φ P).take (k * 2) = erow φ X := by rw [hXY, hk]; exact erow_take φ X _
  obtain ⟨A3, r1, _, r3⟩ := cutw_lB hT Ad N c (kl := .i64) (lo' := (k : Int)) (lo := k) (by first | rfl | simp) (by omega) h1
  have HRX := Lib.hid (fun w' (hb : Below w.heap.size w w') => show Rd w' Ad (erow φ X) from by have := (HR.out.ext hb).take (k * 2); rw [et] at this; exact this)
  have HRZ := Lib.hid (fun w' (hb : Below w.heap.size w w') => show Rd w' A3 (erow φ Y) from by have := r3 w' _ (by rw [erow_length, HN.out]) (HR.out.ext hb); rw [ed] at this; exact this)
  have HLX := Lib.hid (show (erow φ X).length = k * 2 by rw [erow_length, hk])
  have HLY := Lib.hid (show (erow φ Y).length = (N - (k)) * 2 by rw [erow_length, hN]; congr 1; omega)
  have q1 := cutw_hB hT Ad N c (kh := .i64) (hi' := (k : Int)) (hi := k) rfl (by omega)
  have HSET := Lib.hid hset
  have HKX := Lib.hid hk
  have hkN : k ≤ N := by omega
  have HB1 := Lib.hid hb1
  have HYL := Lib.hid (show Y.length = N - (k) by omega)
  clear hset hX hY hY' hXY hk ed et r3 hN hb1
  go_wp2_with (first
    | (at_builtin; refine wpList_append_rd _ rfl (.const (.slice none 0 0)) (.tmp 23) _ rfl w.heap.size _ _ 2 24 hT (.slice none 0 0) 0 [] rfl (World.ownsRow_nil _ _ _ _) Ad k c (erow φ X) rfl HLX.out (HRX.out _ HB1.out) (erow_one _ _) (by unfold maxLen; omega) (by omega) HB1.out.size ?_; intro v2 w2 ho2 hg2 hat2; rw [List.nil_append, Nat.zero_add] at ho2; have hb2 : Below w.heap.size w w2 := below_step HB1.out ⟨hg2.os, hg2.tape, hg2.output, hg2.size, fun k hk => hg2.block k hk (fun e => by cases e)⟩; clear hg2 hat2)
    | ((with_reducible refine gd_rowC ?_); refine wpList_row_one rfl (.tmp 30) rfl hT (by decide) (cs := #[.string ⟨n.toArray⟩, .pointer (some ⟨φ i, 0, none⟩)]) rfl rfl ?_; intro w3 hx3 hbx hlx; have ho3 := own_ext ho2 hbx; have hb3 := below_step hb2 hbx; clear hb2 hbx ho2)
    | (at_builtin; refine wpList_append_rd _ rfl (.tmp 27) (.tmp 31) _ rfl w.heap.size _ _ 2 24 hT _ k _ rfl ho3 (some ⟨w2.heap.size, 0, none⟩) 1 1 [.string ⟨n.toArray⟩, .pointer (some ⟨φ i, 0, none⟩)] rfl rfl hx3.rd (ent_one φ (n, i)) (by unfold maxLen; omega) (by omega) hb3.size ?_; intro v4 w4 ho4 hg4 hat4; have hb4 := below_own hb3 ho3 (Nat.le_refl _) hg4 hb3.size; clear hg4 hat4 ho3 hb3)
    | (at_builtin; refine wpList_append_rd _ rfl (.tmp 33) (.tmp 36) _ rfl w.heap.size _ _ 2 24 hT _ (k + 1) _ rfl ho4 A3 (N - (k)) (c - (k)) (erow φ Y) rfl HLY.out (HRZ.out _ hb4) (erow_one _ _) (by unfold maxLen; omega) (by omega) hb4.size ?_; intro v5 w5 ho5 hg5 hat5; have hb5 := below_own hb4 ho4 (Nat.le_refl _) hg5 hb4.size)
    | fail)
  go_ret
  refine ⟨v5, rfl, ?_, hb5⟩
  rw [HSET.out]
  have el : (X ++ ((Option.map (fun v => (n, v)) (some i)).toList ++ Y)).length = k + 1 + (N - (k)) := by
    rw [List.length_append, List.length_append, ← HKX.out, HYL.out]; show k + (1 + _) = _; omega
  rw [el, erow_append, erow_append]
  have := ho5
  rw [List.append_assoc] at this
  exact this
set_option maxRecDepth 100000 in
set_option maxHeartbeats 2000000 in
theorem set_put_old (φ : Nat → Nat) (v : Value) (P : PL Nat) (n : Ky) (i : Nat) (w : World) (h : Ents φ w v P) (hP : Rises P) (hl : P.length ≤ 1000000) {i0 : Nat} (hg : getP P n = some i0) :
    Calls Try.prog 47 #[v, .string ⟨n.toArray⟩, .pointer (some ⟨φ i, 0, none⟩)] w fun e w' => ∃ v', e = .returned v' ∧ w'.ownsRow w.heap.size 75 2 v' (setP P n (some i)).length (erow φ (setP P n (some i))) ∧ Below w.heap.size w w' := by
  have hT := entsTy
  obtain ⟨Ad, c, rfl, h1, h2, h3⟩ := id h.at_
  have HR := Lib.hid h3
  unfold maxLen at h2
  obtain ⟨N, hN⟩ : ∃ N, N = P.length := ⟨_, rfl⟩
  rw [← hN] at h1 hl h ⊢
  have HN := Lib.hid hN
  clear h3 hN
  have CF := Lib.hid (fun w1 (hb : Below w.heap.size w w1) => find_any φ _ P n w1 (h.ext hb) hP)
  have HG := Lib.hid hg
  clear hg
  go_enter Try.func47, Try.ntmps47
  go_upto_region 2 with (first
    | (go_at_call 32; (with_reducible refine (CF.out _ (Below.refl _ _)).mono ?_); rintro e w1 ⟨k, he, PL, hb1⟩; rw [HG.out] at he; have he2 : e = .returned (.tuple #[.int .i64 (k : Nat), .bool true]) := he; clear he; subst he2)
    | fail)
  obtain ⟨X, Y, hXY, hk, hX, hY⟩ := PL
  obtain ⟨i0, Y', rfl, hgi, hY'⟩ : ∃ i B', Y = (n, i) :: B' ∧ getP P n = some i ∧ ∀ p ∈ B', ltB n p.1 = true := by
    rcases hY with h | ⟨h, _⟩
    · exact h
    · rw [HG.out] at h; cases h
  have hset : setP P n (some i) = X ++ ((Option.map (fun v => (n, v)) (some i)).toList ++ Y') := by rw [hXY]; exact setP_at hX hY'
  have hN : N = k + 1 + Y'.length := by rw [HN.out, hXY, hk, List.length_append, List.length_cons]; omega
  have ed : (erow φ P).drop ((k + 1) * 2) = erow φ Y' := by
    have := erow_drop φ (X ++ [(n, i0)]) Y'
    rw [List.append_assoc, List.singleton_append, ← hXY, List.length_append, ← hk] at this
    exact this
  have et : (erow φ P).take (k * 2) = erow φ X := by rw [hXY, hk]; exact erow_take φ X _
  obtain ⟨A3, r1, _, r3⟩ := cutw_lB hT Ad N c (kl := .i64) (lo' := (k : Int) + 1) (lo := k + 1) (by first | rfl | simp) (by omega) h1
  have HRX := Lib.hid (fun w' (hb : Below w.heap.size w w') => show Rd w' Ad (erow φ X) from by have := (HR.out.ext hb).take (k * 2); rw [et] at this; exact this)
  have HRZ := Lib.hid (fun w' (hb : Below w.heap.size w w') => show Rd w' A3 (erow φ Y') from by have := r3 w' _ (by rw [erow_length, HN.out]) (HR.out.ext hb); rw [ed] at this; exact this)
  have HLX := Lib.hid (show (erow φ X).length = k * 2 by rw [erow_length, hk])
  have HLY := Lib.hid (show (erow φ Y').length = (N - (k + 1)) * 2 by rw [erow_length, hN]; congr 1; omega)
  have q1 := cutw_hB hT Ad N c (kh := .i64) (hi' := (k : Int)) (hi := k) rfl (by omega)
  have HSET := Lib.hid hset
  have HKX := Lib.hid hk
  have hkN : k + 1 ≤ N := by omega
  have HB1 := Lib.hid hb1
  have HYL := Lib.hid (show Y'.length = N - (k + 1) by omega)
  clear hset hX hY hY' hXY hk ed et r3 hN hb1 hgi
  go_wp2_with (first
    | (at_builtin; refine wpList_append_rd _ rfl (.const (.slice none 0 0)) (.tmp 23) _ rfl w.heap.size _ _ 2 24 hT (.slice none 0 0) 0 [] rfl (World.ownsRow_nil _ _ _ _) Ad k c (erow φ X) rfl HLX.out (HRX.out _ HB1.out) (erow_one _ _) (by unfold maxLen; omega) (by omega) HB1.out.size ?_; intro v2 w2 ho2 hg2 hat2; rw [List.nil_append, Nat.zero_add] at ho2; have hb2 : Below w.heap.size w w2 := below_step HB1.out ⟨hg2.os, hg2.tape, hg2.output, hg2.size, fun k hk => hg2.block k hk (fun e => by cases e)⟩; clear hg2 hat2)
    | ((with_reducible refine gd_rowC ?_); refine wpList_row_one rfl (.tmp 30) rfl hT (by decide) (cs := #[.string ⟨n.toArray⟩, .pointer (some ⟨φ i, 0, none⟩)]) rfl rfl ?_; intro w3 hx3 hbx hlx; have ho3 := own_ext ho2 hbx; have hb3 := below_step hb2 hbx; clear hb2 hbx ho2)
    | (at_builtin; refine wpList_append_rd _ rfl (.tmp 27) (.tmp 31) _ rfl w.heap.size _ _ 2 24 hT _ k _ rfl ho3 (some ⟨w2.heap.size, 0, none⟩) 1 1 [.string ⟨n.toArray⟩, .pointer (some ⟨φ i, 0, none⟩)] rfl rfl hx3.rd (ent_one φ (n, i)) (by unfold maxLen; omega) (by omega) hb3.size ?_; intro v4 w4 ho4 hg4 hat4; have hb4 := below_own hb3 ho3 (Nat.le_refl _) hg4 hb3.size; clear hg4 hat4 ho3 hb3)
    | (at_builtin; refine wpList_append_rd _ rfl (.tmp 33) (.tmp 36) _ rfl w.heap.size _ _ 2 24 hT _ (k + 1) _ rfl ho4 A3 (N - (k + 1)) (c - (k + 1)) (erow φ Y') rfl HLY.out (HRZ.out _ hb4) (erow_one _ _) (by unfold maxLen; omega) (by omega) hb4.size ?_; intro v5 w5 ho5 hg5 hat5; have hb5 := below_own hb4 ho4 (Nat.le_refl _) hg5 hb4.size)
    | fail)
  go_ret
  refine ⟨v5, rfl, ?_, hb5⟩
  rw [HSET.out]
  have el : (X ++ ((Option.map (fun v => (n, v)) (some i)).toList ++ Y')).length = k + 1 + (N - (k + 1)) := by
    rw [List.length_append, List.length_append, ← HKX.out, HYL.out]; show k + (1 + _) = _; omega
  rw [el, erow_append, erow_append]
  have := ho5
  rw [List.append_assoc] at this
  exact this
set_option maxRecDepth 100000 in
set_option maxHeartbeats 2000000 in
theorem set_del_old (φ : Nat → Nat) (v : Value) (P : PL Nat) (n : Ky) (w : World) (h : Ents φ w v P) (hP : Rises P) (hl : P.length ≤ 1000000) {i0 : Nat} (hg : getP P n = some i0) :
    Calls Try.prog 47 #[v, .string ⟨n.toArray⟩, .pointer none] w fun e w' => ∃ v', e = .returned v' ∧ w'.ownsRow w.heap.size 75 2 v' (setP P n none).length (erow φ (setP P n none)) ∧ Below w.heap.size w w' := by
  have hT := entsTy
  obtain ⟨Ad, c, rfl, h1, h2, h3⟩ := id h.at_
  have HR := Lib.hid h3
  unfold maxLen at h2
  obtain ⟨N, hN⟩ : ∃ N, N = P.length := ⟨_, rfl⟩
  rw [← hN] at h1 hl h ⊢
  have HN := Lib.hid hN
  clear h3 hN
  have CF := Lib.hid (fun w1 (hb : Below w.heap.size w w1) => find_any φ _ P n w1 (h.ext hb) hP)
  have HG := Lib.hid hg
  clear hg
  go_enter Try.func47, Try.ntmps47
  go_upto_region 2 with (first
    | (go_at_call 32; (with_reducible refine (CF.out _ (Below.refl _ _)).mono ?_); rintro e w1 ⟨k, he, PL, hb1⟩; rw [HG.out] at he; have he2 : e = .returned (.tuple #[.int .i64 (k : Nat), .bool true]) := he; clear he; subst he2)
    | fail)
  obtain ⟨X, Y, hXY, hk, hX, hY⟩ := PL
  obtain ⟨i0, Y', rfl, hgi, hY'⟩ : ∃ i B', Y = (n, i) :: B' ∧ getP P n = some i ∧ ∀ p ∈ B', ltB n p.1 = true := by
    rcases hY with h | ⟨h, _⟩
    · exact h
    · rw [HG.out] at h; cases h
  have hset : setP P n none = X ++ ((Option.map (fun v => (n, v)) (none : Option Nat)).toList ++ Y') := by rw [hXY]; exact setP_at hX hY'
  have hN : N = k + 1 + Y'.length := by rw [HN.out, hXY, hk, List.length_append, List.length_cons]; omega
  have ed : (erow φ P).drop ((k + 1) * 2) = erow φ Y' := by
    have := erow_drop φ (X ++ [(n, i0)]) Y'
    rw [List.append_assoc, List.singleton_append, ← hXY, List.length_append, ← hk] at this
    exact this
  have et : (erow φ P).take (k * 2) = erow φ X := by rw [hXY, hk]; exact erow_take φ X _
  obtain ⟨A3, r1, _, r3⟩ := cutw_lB hT Ad N c (kl := .i64) (lo' := (k : Int) + 1) (lo := k + 1) (by first | rfl | simp) (by omega) h1
  have HRX := Lib.hid (fun w' (hb : Below w.heap.size w w') => show Rd w' Ad (erow φ X) from by have := (HR.out.ext hb).take (k * 2); rw [et] at this; exact this)
  have HRZ := Lib.hid (fun w' (hb : Below w.heap.size w w') => show Rd w' A3 (erow φ Y') from by have := r3 w' _ (by rw [erow_length, HN.out]) (HR.out.ext hb); rw [ed] at this; exact this)
  have HLX := Lib.hid (show (erow φ X).length = k * 2 by rw [erow_length, hk])
  have HLY := Lib.hid (show (erow φ Y').length = (N - (k + 1)) * 2 by rw [erow_length, hN]; congr 1; omega)
  have q1 := cutw_hB hT Ad N c (kh := .i64) (hi' := (k : Int)) (hi := k) rfl (by omega)
  have HSET := Lib.hid hset
  have HKX := Lib.hid hk
  have hkN : k + 1 ≤ N := by omega
  have HB1 := Lib.hid hb1
  have HYL := Lib.hid (show Y'.length = N - (k + 1) by omega)
  clear hset hX hY hY' hXY hk ed et r3 hN hb1 hgi
  go_wp2_with (first
    | (at_builtin; refine wpList_append_rd _ rfl (.const (.slice none 0 0)) (.tmp 23) _ rfl w.heap.size _ _ 2 24 hT (.slice none 0 0) 0 [] rfl (World.ownsRow_nil _ _ _ _) Ad k c (erow φ X) rfl HLX.out (HRX.out _ HB1.out) (erow_one _ _) (by unfold maxLen; omega) (by omega) HB1.out.size ?_; intro v2 w2 ho2 hg2 hat2; rw [List.nil_append, Nat.zero_add] at ho2; have hb2 : Below w.heap.size w w2 := below_step HB1.out ⟨hg2.os, hg2.tape, hg2.output, hg2.size, fun k hk => hg2.block k hk (fun e => by cases e)⟩; clear hg2 hat2)
    | (at_builtin; refine wpList_append_rd _ rfl (.tmp 33) (.tmp 36) _ rfl w.heap.size _ _ 2 24 hT _ k _ rfl ho2 A3 (N - (k + 1)) (c - (k + 1)) (erow φ Y') rfl HLY.out (HRZ.out _ hb2) (erow_one _ _) (by unfold maxLen; omega) (by omega) hb2.size ?_; intro v5 w5 ho5 hg5 hat5; have hb5 := below_own hb2 ho2 (Nat.le_refl _) hg5 hb2.size)
    | fail)
  go_ret
  refine ⟨v5, rfl, ?_, hb5⟩
  rw [HSET.out]
  have el : (X ++ ((Option.map (fun v => (n, v)) (none : Option Nat)).toList ++ Y')).length = k + (N - (k + 1)) := by
    rw [List.length_append, List.length_append, ← HKX.out, HYL.out]; show k + (0 + _) = _; omega
  rw [el, erow_append, erow_append]
  exact ho5
set_option maxRecDepth 100000 in
set_option maxHeartbeats 2000000 in
theorem set_del_new (φ : Nat → Nat) (v : Value) (P : PL Nat) (n : Ky) (w : World) (h : Ents φ w v P) (hP : Rises P) (hl : P.length ≤ 1000000) (hg : getP P n = none) :
    Calls Try.prog 47 #[v, .string ⟨n.toArray⟩, .pointer none] w fun e w' => ∃ v', e = .returned v' ∧ w'.ownsRow w.heap.size 75 2 v' (setP P n none).length (erow φ (setP P n none)) ∧ Below w.heap.size w w' := by
  have hT := entsTy
  obtain ⟨Ad, c, rfl, h1, h2, h3⟩ := id h.at_
  have HR := Lib.hid h3
  unfold maxLen at h2
  obtain ⟨N, hN⟩ : ∃ N, N = P.length := ⟨_, rfl⟩
  rw [← hN] at h1 hl h ⊢
  have HN := Lib.hid hN
  clear h3 hN
  have CF := Lib.hid (fun w1 (hb : Below w.heap.size w w1) => find_any φ _ P n w1 (h.ext hb) hP)
  have HG := Lib.hid hg
  clear hg
  go_enter Try.func47, Try.ntmps47
  go_upto_region 2 with (first
    | (go_at_call 32; (with_reducible refine (CF.out _ (Below.refl _ _)).mono ?_); rintro e w1 ⟨k, he, PL, hb1⟩; rw [HG.out] at he; have he2 : e = .returned (.tuple #[.int .i64 (k : Nat), .bool false]) := he; clear he; subst he2)
    | fail)
  obtain ⟨X, Y, hXY, hk, hX, hY⟩ := PL
  have hY' : ∀ p ∈ Y, ltB n p.1 = true := by
    rcases hY with ⟨i, B', _, h, _⟩ | ⟨_, h⟩
    · rw [HG.out] at h; cases h
    · exact h
  have hset : setP P n none = X ++ ((Option.map (fun v => (n, v)) (none : Option Nat)).toList ++ Y) := by rw [hXY]; exact setP_split hX hY'
  have hN : N = k + Y.length := by rw [HN.out, hXY, hk, List.length_append]
  have ed : (erow φ P).drop (k * 2) = erow φ Y := by rw [hXY, hk]; exact erow_drop φ X Y
  have et : (erow φ P).take (k * 2) = erow φ X := by rw [hXY, hk]; exact erow_take φ X _
  obtain ⟨A3, r1, _, r3⟩ := cutw_lB hT Ad N c (kl := .i64) (lo' := (k : Int)) (lo := k) (by first | rfl | simp) (by omega) h1
  have HRX := Lib.hid (fun w' (hb : Below w.heap.size w w') => show Rd w' Ad (erow φ X) from by have := (HR.out.ext hb).take (k * 2); rw [et] at this; exact this)
  have HRZ := Lib.hid (fun w' (hb : Below w.heap.size w w') => show Rd w' A3 (erow φ Y) from by have := r3 w' _ (by rw [erow_length, HN.out]) (HR.out.ext hb); rw [ed] at this; exact this)
  have HLX := Lib.hid (show (erow φ X).length = k * 2 by rw [erow_length, hk])
  have HLY := Lib.hid (show (erow φ Y).length = (N - (k)) * 2 by rw [erow_length, hN]; congr 1; omega)
  have q1 := cutw_hB hT Ad N c (kh := .i64) (hi' := (k : Int)) (hi := k) rfl (by omega)
  have HSET := Lib.hid hset
  have HKX := Lib.hid hk
  have hkN : k ≤ N := by omega
  have HB1 := Lib.hid hb1
  have HYL := Lib.hid (show Y.length = N - (k) by omega)
  clear hset hX hY hY' hXY hk ed et r3 hN hb1
  go_wp2_with (first
    | (at_builtin; refine wpList_append_rd _ rfl (.const (.slice none 0 0)) (.tmp 23) _ rfl w.heap.size _ _ 2 24 hT (.slice none 0 0) 0 [] rfl (World.ownsRow_nil _ _ _ _) Ad k c (erow φ X) rfl HLX.out (HRX.out _ HB1.out) (erow_one _ _) (by unfold maxLen; omega) (by omega) HB1.out.size ?_; intro v2 w2 ho2 hg2 hat2; rw [List.nil_append, Nat.zero_add] at ho2; have hb2 : Below w.heap.size w w2 := below_step HB1.out ⟨hg2.os, hg2.tape, hg2.output, hg2.size, fun k hk => hg2.block k hk (fun e => by cases e)⟩; clear hg2 hat2)
    | (at_builtin; refine wpList_append_rd _ rfl (.tmp 33) (.tmp 36) _ rfl w.heap.size _ _ 2 24 hT _ k _ rfl ho2 A3 (N - (k)) (c - (k)) (erow φ Y) rfl HLY.out (HRZ.out _ hb2) (erow_one _ _) (by unfold maxLen; omega) (by omega) hb2.size ?_; intro v5 w5 ho5 hg5 hat5; have hb5 := below_own hb2 ho2 (Nat.le_refl _) hg5 hb2.size)
    | fail)
  go_ret
  refine ⟨v5, rfl, ?_, hb5⟩
  rw [HSET.out]
  have el : (X ++ ((Option.map (fun v => (n, v)) (none : Option Nat)).toList ++ Y)).length = k + (N - (k)) := by
    rw [List.length_append, List.length_append, ← HKX.out, HYL.out]; show k + (0 + _) = _; omega
  rw [el, erow_append, erow_append]
  exact ho5
/-- set, whatever is there -/
theorem set_put (φ : Nat → Nat) (v : Value) (P : PL Nat) (n : Ky) (i : Nat) (w : World) (h : Ents φ w v P) (hP : Rises P) (hl : P.length ≤ 1000000) :
    Calls Try.prog 47 #[v, .string ⟨n.toArray⟩, .pointer (some ⟨φ i, 0, none⟩)] w fun e w' => ∃ v', e = .returned v' ∧ w'.ownsRow w.heap.size 75 2 v' (setP P n (some i)).length (erow φ (setP P n (some i))) ∧ Below w.heap.size w w' := by
  cases hg : getP P n with
  | none => exact set_put_new φ v P n i w h hP hl hg
  | some j => exact set_put_old φ v P n i w h hP hl hg
theorem set_del (φ : Nat → Nat) (v : Value) (P : PL Nat) (n : Ky) (w : World) (h : Ents φ w v P) (hP : Rises P) (hl : P.length ≤ 1000000) :
    Calls Try.prog 47 #[v, .string ⟨n.toArray⟩, .pointer none] w fun e w' => ∃ v', e = .returned v' ∧ w'.ownsRow w.heap.size 75 2 v' (setP P n none).length (erow φ (setP P n none)) ∧ Below w.heap.size w w' := by
  cases hg : getP P n with
  | none => exact set_del_new φ v P n w h hP hl hg
  | some j => exact set_del_old φ v P n w h hP hl hg
end Go.Mun
