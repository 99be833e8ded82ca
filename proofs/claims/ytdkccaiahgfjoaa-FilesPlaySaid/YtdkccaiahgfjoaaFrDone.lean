/- The reference: a change of names is done. -/
import Derived.Test.YtdkccaiahgfjoaaFrSet
namespace Go.Mun
open Go Go.RowKit Go.Proofs Go.Maps

set_option maxRecDepth 100000 in
set_option maxHeartbeats 2000000 in
theorem done_made (φ : Nat → Nat) (v : Value) (P : PL Nat) (n : Ky) (i : Nat) (w : World) (h : Ents φ w v P) (hP : Rises P) (hl : P.length ≤ 1000000) (hn : n ≠ []) :
    Calls Try.prog 34 #[v, .agg #[.string ⟨#[]⟩, .string ⟨n.toArray⟩, .pointer (some ⟨φ i, 0, none⟩)]] w fun e w' => ∃ v', e = .returned v' ∧ w'.ownsRow w.heap.size 75 2 v' (doC P (.made n i)).length (erow φ (doC P (.made n i))) ∧ Below w.heap.size w w' := by
  have e1 : n.isEmpty = false := by cases n <;> simp_all
  obtain ⟨Ad, c, rfl, _⟩ := id h.at_
  have HE := Lib.hid h
  clear h
  go_enter Try.func34, Try.ntmps34
  go_wp2_with (first
    | ((with_reducible refine gd_box ?_); refine wpList_box_agg rfl _ (.tmp 1) rfl rfl ?_; intro w1 hx1 hb1 hl1; have y0 := hx1.cellv (i := 0) rfl; have y1 := hx1.cellv (i := 1) rfl; have y2 := hx1.cellv (i := 2) rfl)
    | (go_at_call 47; (with_reducible refine (set_put φ _ P n i w1 (HE.out.ext hb1) hP hl).mono ?_); rintro e w2 ⟨v2, rfl, ho2, hb2⟩)
    | fail)
  go_ret
  exact ⟨v2, rfl, own_base ho2 hb1.size, below_step hb1 hb2⟩
set_option maxRecDepth 100000 in
set_option maxHeartbeats 2000000 in
theorem done_del (φ : Nat → Nat) (v : Value) (P : PL Nat) (a : Ky) (w : World) (h : Ents φ w v P) (hP : Rises P) (hl : P.length ≤ 1000000) (hn : a ≠ []) :
    Calls Try.prog 34 #[v, .agg #[.string ⟨a.toArray⟩, .string ⟨#[]⟩, .pointer none]] w fun e w' => ∃ v', e = .returned v' ∧ w'.ownsRow w.heap.size 75 2 v' (doC P (.del a)).length (erow φ (doC P (.del a))) ∧ Below w.heap.size w w' := by
  have e1 : a.isEmpty = false := by cases a <;> simp_all
  obtain ⟨Ad, c, rfl, _⟩ := id h.at_
  have HE := Lib.hid h
  clear h
  go_enter Try.func34, Try.ntmps34
  go_wp2_with (first
    | ((with_reducible refine gd_box ?_); refine wpList_box_agg rfl _ (.tmp 1) rfl rfl ?_; intro w1 hx1 hb1 hl1; have y0 := hx1.cellv (i := 0) rfl; have y1 := hx1.cellv (i := 1) rfl; have y2 := hx1.cellv (i := 2) rfl)
    | (go_at_call 47; (with_reducible refine (set_del φ _ P a w1 (HE.out.ext hb1) hP hl).mono ?_); rintro e w2 ⟨v2, rfl, ho2, hb2⟩; have hx2 := hx1.ext hb2; have y1 := hx2.cellv (i := 1) rfl; obtain ⟨A2, c2, rfl⟩ := row_slC ho2)
    | fail)
  go_ret
  exact ⟨_, rfl, own_base ho2 hb1.size, below_step hb1 hb2⟩
set_option maxRecDepth 100000 in
set_option maxHeartbeats 2000000 in
theorem done_ren (φ : Nat → Nat) (v : Value) (P : PL Nat) (a b : Ky) (i : Nat) (w : World) (h : Ents φ w v P) (hP : Rises P) (hl : P.length ≤ 999999) (ha : a ≠ []) (hb : b ≠ []) :
    Calls Try.prog 34 #[v, .agg #[.string ⟨a.toArray⟩, .string ⟨b.toArray⟩, .pointer (some ⟨φ i, 0, none⟩)]] w fun e w' => ∃ v', e = .returned v' ∧ w'.ownsRow w.heap.size 75 2 v' (doC P (.ren a b i)).length (erow φ (doC P (.ren a b i))) ∧ Below w.heap.size w w' := by
  have e1 : a.isEmpty = false := by cases a <;> simp_all
  have e2 : b.isEmpty = false := by cases b <;> simp_all
  obtain ⟨Ad, c, rfl, _⟩ := id h.at_
  have HE := Lib.hid h
  clear h
  go_enter Try.func34, Try.ntmps34
  go_wp2_with (first
    | ((with_reducible refine gd_box ?_); refine wpList_box_agg rfl _ (.tmp 1) rfl rfl ?_; intro w1 hx1 hb1 hl1; have y0 := hx1.cellv (i := 0) rfl; have y1 := hx1.cellv (i := 1) rfl; have y2 := hx1.cellv (i := 2) rfl)
    | (go_at_call 47; (with_reducible refine (set_del φ _ P a w1 (HE.out.ext hb1) hP (by omega)).mono ?_); rintro e w2 ⟨v2, rfl, ho2, hb2⟩; have hx2 := hx1.ext hb2; have y1 := hx2.cellv (i := 1) rfl; have y2 := hx2.cellv (i := 2) rfl; have HE2 := Lib.hid (Ents.own ho2); have hl2 := Nat.le_trans (length_set P a none) (Nat.succ_le_succ hl); obtain ⟨A2, c2, rfl⟩ := row_slC ho2; have tok : True := trivial; clear ho2)
    | (go_at_call 47; have _t := tok; (with_reducible refine (set_put φ _ (setP P a none) b i w2 HE2.out (hP.set _ _) hl2).mono ?_); rintro e w3 ⟨v3, rfl, ho3, hb3⟩)
    | fail)
  go_ret
  exact ⟨v3, rfl, own_base ho3 (Nat.le_trans hb1.size hb2.size), below_step (below_step hb1 hb2) hb3⟩
/-- a change, as the reference has it -/
def chR (φ : Nat → Nat) : Chg → List Value
  | .made n i => [.string ⟨#[]⟩, .string ⟨n.toArray⟩, ptr (φ i)]
  | .ren a b i => [.string ⟨a.toArray⟩, .string ⟨b.toArray⟩, ptr (φ i)]
  | .del a => [.string ⟨a.toArray⟩, .string ⟨#[]⟩, .pointer none]
theorem chR_length (φ : Nat → Nat) (c : Chg) : (chR φ c).length = 3 := by cases c <;> rfl
theorem chR_one (φ : Nat → Nat) (c : Chg) : ∀ u ∈ chR φ c, u.oneCell' = true := by
  have h : oneAll (chR φ c) = true := by cases c <;> rfl
  exact fun u hu => oneAll_mem h u hu
theorem done_any (φ : Nat → Nat) (v : Value) (P : PL Nat) (c : Chg) (w : World) (h : Ents φ w v P) (hP : Rises P) (hl : P.length ≤ 999999) (hc : ChgOk P c) :
    Calls Try.prog 34 #[v, .agg (chR φ c).toArray] w fun e w' => ∃ v', e = .returned v' ∧ w'.ownsRow w.heap.size 75 2 v' (doC P c).length (erow φ (doC P c)) ∧ Below w.heap.size w w' := by
  cases c with
  | made n i => exact done_made φ v P n i w h hP (by omega) hc.1.1
  | ren a b i => exact done_ren φ v P a b i w h hP hl hc.1.1 hc.2.1.1
  | del a => exact done_del φ v P a w h hP (by omega) hc.1
end Go.Mun
