/- The walks of record's reading, and of the document's. -/
import Derived.Test.YtmaaejicfpfcdaaRecNext
import Derived.Test.YtmaaejicfpfcdaaRecAlive
import Derived.Test.YtmaaejicfpfcdaaRegion
import Derived.Test.YtmaaejicfpfcdaaBits
import Derived.Deep.QuietTactic
import Derived.BigQuiet
namespace Go.Mun
open Go Go.RowKit Go.Proofs

theorem add_zero' (a : Addr) : a.add 0 = a := rfl
theorem or4_nat (a b c d : Nat) (hb : b < 256) (hc : c < 256) (hd : d < 256) : (a * 16777216 ||| b * 65536 ||| c * 256 ||| d) = a * 16777216 + b * 65536 + c * 256 + d := by
  have h1 := or_side a (b * 65536) 24 (by omega)
  have h2 := or_side (a * 256 + b) (c * 256) 16 (by omega)
  have h3 := or_side (a * 65536 + b * 256 + c) d 8 (by omega)
  rw [show a * 2 ^ 24 = a * 16777216 from rfl] at h1
  rw [h1, show a * 16777216 + b * 65536 = (a * 256 + b) * 2 ^ 16 from by omega, h2, show (a * 256 + b) * 2 ^ 16 + c * 256 = (a * 65536 + b * 256 + c) * 2 ^ 8 from by omega, h3]
theorem or4_u32 (a b c d : Nat) (ha : a < 256) (hb : b < 256) (hc : c < 256) (hd : d < 256) :
    wrap64 (bits .or .u32 (bits .or .u32 (bits .or .u32 ((a : Int) * 16777216) ((b : Int) * 65536)) ((c : Int) * 256)) (d : Int)) =
      ((a * 16777216 + b * 65536 + c * 256 + d : Nat) : Int) := by
  rw [show (a : Int) * 16777216 = ((a * 16777216 : Nat) : Int) from by omega, show (b : Int) * 65536 = ((b * 65536 : Nat) : Int) from by omega, show (c : Int) * 256 = ((c * 256 : Nat) : Int) from by omega]
  have e1 : (a * 16777216 ||| b * 65536) < 2 ^ 32 := Nat.or_lt_two_pow (by omega) (by omega)
  have e2 : (a * 16777216 ||| b * 65536 ||| c * 256) < 2 ^ 32 := Nat.or_lt_two_pow e1 (by omega)
  rw [u32_or_nat _ _ (by omega) (by omega), u32_or_nat _ _ (by omega) (by omega), u32_or_nat _ _ (by omega) (by omega), or4_nat a b c d hb hc hd]
  exact IntWalk.wrap64_in _ (by omega)
theorem or4_i64 (a b c d : Nat) (ha : a < 256) (hb : b < 256) (hc : c < 256) (hd : d < 256) :
    bits .or .i64 (bits .or .i64 (bits .or .i64 ((a * 16777216 : Nat) : Int) ((b * 65536 : Nat) : Int)) ((c * 256 : Nat) : Int)) (d : Int) = ((a * 16777216 + b * 65536 + c * 256 + d : Nat) : Int) := by
  have e1 : (a * 16777216 ||| b * 65536) < 2 ^ 32 := Nat.or_lt_two_pow (by omega) (by omega)
  have e2 : (a * 16777216 ||| b * 65536 ||| c * 256) < 2 ^ 32 := Nat.or_lt_two_pow e1 (by omega)
  rw [i64_or_nat _ _ (by omega) (by omega), i64_or_nat _ _ (by omega) (by omega), i64_or_nat _ _ (by omega) (by omega), or4_nat a b c d hb hc hd]
theorem numB_get {l : List UInt8} (h : 4 ≤ l.length) : numB l = l[0].toNat * 16777216 + l[1].toNat * 65536 + l[2].toNat * 256 + l[3].toNat := by
  unfold numB
  simp [List.getD_eq_getElem?_getD, List.getElem?_eq_getElem (show 0 < l.length by omega), List.getElem?_eq_getElem (show 1 < l.length by omega), List.getElem?_eq_getElem (show 2 < l.length by omega), List.getElem?_eq_getElem (show 3 < l.length by omega)]

set_option maxRecDepth 100000 in
set_option maxHeartbeats 400000 in
theorem number_any (A : Option Addr) (n c : Nat) (l : List UInt8) (w : World) (hl : l.length = n) (hr : Rd w A (bv l)) (hn : 4 ≤ n) :
    Calls Try.prog 43 #[.slice A n c] w fun e w' => e = .returned (.int .i64 (numB l : Nat)) ∧ ∃ k, w' = w.drewN k := by
  obtain ⟨ad, rfl, h0⟩ := hr.byte (j := 0) (by omega)
  obtain ⟨_, e, h1⟩ := hr.byte (j := 1) (by omega); cases e
  obtain ⟨_, e, h2⟩ := hr.byte (j := 2) (by omega); cases e
  obtain ⟨_, e, h3⟩ := hr.byte (j := 3) (by omega); cases e
  have g0 : 0 < n := by omega
  rw [add_zero'] at h0
  replace h1 : w.cell? ⟨ad.block, ad.off + 1, none⟩ = _ := h1
  replace h2 : w.cell? ⟨ad.block, ad.off + 2, none⟩ = _ := h2
  replace h3 : w.cell? ⟨ad.block, ad.off + 3, none⟩ = _ := h3
  have g1 : (1 : Int) < (n : Int) := by omega
  have g2 : (2 : Int) < (n : Int) := by omega
  have g3 : (3 : Int) < (n : Int) := by omega
  go_enter Try.func43, Try.ntmps43
  go_wp2
  have hg := numB_get (l := l) (by omega)
  have b0 := l[0].toNat_lt
  have b1 := l[1].toNat_lt
  have b2 := l[2].toNat_lt
  have b3 := l[3].toNat_lt
  generalize l[0].toNat = x0 at *
  generalize l[1].toNat = x1 at *
  generalize l[2].toNat = x2 at *
  generalize l[3].toNat = x3 at *
  have HO := Lib.hid (or4_u32 x0 x1 x2 x3 b0 b1 b2 b3)
  have HG := Lib.hid hg
  clear hg
  go_quiet (fail)
  go_wp2
  go_ret
  exact ⟨ret_i (by rw [HG.out]; exact HO.out), _, rfl⟩

set_option maxRecDepth 100000 in
set_option maxHeartbeats 400000 in
theorem num_any (A : Option Addr) (n c : Nat) (l : List UInt8) (w : World) (hl : l.length = n) (hr : Rd w A (bv l)) (hn : 4 ≤ n) :
    Calls Try.prog 46 #[.slice A n c] w fun e w' => e = .returned (.int .i64 (numB l : Nat)) ∧ ∃ k, w' = w.drewN k := by
  obtain ⟨ad, rfl, h0⟩ := hr.byte (j := 0) (by omega)
  obtain ⟨_, e, h1⟩ := hr.byte (j := 1) (by omega); cases e
  obtain ⟨_, e, h2⟩ := hr.byte (j := 2) (by omega); cases e
  obtain ⟨_, e, h3⟩ := hr.byte (j := 3) (by omega); cases e
  have g0 : 0 < n := by omega
  rw [add_zero'] at h0
  replace h1 : w.cell? ⟨ad.block, ad.off + 1, none⟩ = _ := h1
  replace h2 : w.cell? ⟨ad.block, ad.off + 2, none⟩ = _ := h2
  replace h3 : w.cell? ⟨ad.block, ad.off + 3, none⟩ = _ := h3
  have g1 : (1 : Int) < (n : Int) := by omega
  have g2 : (2 : Int) < (n : Int) := by omega
  have g3 : (3 : Int) < (n : Int) := by omega
  go_enter Try.func46, Try.ntmps46
  go_wp2
  have hg := numB_get (l := l) (by omega)
  have b0 := l[0].toNat_lt
  have b1 := l[1].toNat_lt
  have b2 := l[2].toNat_lt
  have b3 := l[3].toNat_lt
  generalize l[0].toNat = x0 at *
  generalize l[1].toNat = x1 at *
  generalize l[2].toNat = x2 at *
  generalize l[3].toNat = x3 at *
  have HO := Lib.hid (or4_i64 x0 x1 x2 x3 b0 b1 b2 b3)
  have HG := Lib.hid hg
  clear hg
  have e0 : IntKind.i64.wrap (x0 : Int) = (x0 : Int) := IntWalk.i64_in _ (by omega)
  have e1 : IntKind.i64.wrap (x1 : Int) = (x1 : Int) := IntWalk.i64_in _ (by omega)
  have e2 : IntKind.i64.wrap (x2 : Int) = (x2 : Int) := IntWalk.i64_in _ (by omega)
  have e3 : IntKind.i64.wrap (x3 : Int) = (x3 : Int) := IntWalk.i64_in _ (by omega)
  have f0 : IntKind.i64.wrap ((x0 : Int) * 16777216) = ((x0 * 16777216 : Nat) : Int) := by rw [IntWalk.i64_in _ (by omega)]; omega
  have f1 : IntKind.i64.wrap ((x1 : Int) * 65536) = ((x1 * 65536 : Nat) : Int) := by rw [IntWalk.i64_in _ (by omega)]; omega
  have f2 : IntKind.i64.wrap ((x2 : Int) * 256) = ((x2 * 256 : Nat) : Int) := by rw [IntWalk.i64_in _ (by omega)]; omega
  go_quiet (fail)
  go_wp2
  go_ret
  exact ⟨ret_i (by rw [HG.out]; exact HO.out), _, rfl⟩

theorem number_b {v : Value} {l : List UInt8} {w : World} (hb : Bytes w v l) (h : 4 ≤ l.length) :
    Calls Try.prog 43 #[v] w fun e w' => e = .returned (.int .i64 (numB l : Nat)) ∧ ∃ k, w' = w.drewN k := by
  obtain ⟨A, n, c, rfl, h1, h2, h3, h4⟩ := hb
  exact number_any A n c l w h1 h4 (by omega)
theorem num_b {v : Value} {l : List UInt8} {w : World} (hb : Bytes w v l) (h : 4 ≤ l.length) :
    Calls Try.prog 46 #[v] w fun e w' => e = .returned (.int .i64 (numB l : Nat)) ∧ ∃ k, w' = w.drewN k := by
  obtain ⟨A, n, c, rfl, h1, h2, h3, h4⟩ := hb
  exact num_any A n c l w h1 h4 (by omega)
theorem number_c {v : Value} {l : List UInt8} {w : World} (hb : Bytes w v l) (h : 4 ≤ l.length) :
    Calls Try.prog 43 #[v] w fun e w' => e = .returned (.int .i64 (numB l : Nat)) ∧ Below w.heap.size w w' :=
  (number_b hb h).mono fun _ _ ⟨e, k, hk⟩ => ⟨e, by rw [hk]; exact below_drewN (Below.refl _ _) k⟩
theorem num_c {v : Value} {l : List UInt8} {w : World} (hb : Bytes w v l) (h : 4 ≤ l.length) :
    Calls Try.prog 46 #[v] w fun e w' => e = .returned (.int .i64 (numB l : Nat)) ∧ Below w.heap.size w w' :=
  (num_b hb h).mono fun _ _ ⟨e, k, hk⟩ => ⟨e, by rw [hk]; exact below_drewN (Below.refl _ _) k⟩
theorem own_none (w : World) (base : Nat) (e : TypeId) (hb : base ≤ w.heap.size) : (w.alloc (.cells #[] e)).ownsRow base e 1 (.slice (some ⟨w.heap.size, 0, none⟩) 0 0) 0 (bv []) :=
  own_new_at hb rfl e #[] rfl (by simp [maxLen]) rfl

set_option maxRecDepth 100000 in
set_option maxHeartbeats 400000 in
theorem Clone_any (v : Value) (l : List UInt8) (w : World) (hv : Bytes w v l) (hl : l.length ≤ 140737488355328) :
    Calls Try.prog 48 #[v] w fun e w' => ∃ v', e = .returned v' ∧ w'.ownsRow w.heap.size 5 1 v' l.length (bv l) ∧ Below w.heap.size w w' := by
  have hT := bytesTyR
  obtain ⟨A, n, c, rfl, h1, h2, h3, h4⟩ := hv
  have hq : ∀ (w : World) (a : Option Addr) (n c n' c' : Nat), (binOp .eql 24 (.slice a n c) (.slice none n' c')).run Try.prog w = .ok (.bool a.isNone) w := fun w a n c n' c' => Lib.run_eql_slice_nil w _ _ a n c n' c' Try.underlying24
  cases A with
  | none =>
    have e : l = [] := by
      cases l with
      | nil => rfl
      | cons x l => obtain ⟨_, e, _⟩ := h4.byte (j := 0) (by simp); cases e
    go_enter Try.func48, Try.ntmps48
    go_wp2
    go_ret
    exact ⟨_, rfl, by rw [e]; exact ⟨rfl, .inl ⟨rfl, rfl⟩⟩, Below.refl _ _⟩
  | some ad =>
    have hy : Bytes w (.slice (some ad) n c) l := ⟨_, n, c, rfl, h1, h2, h3, h4⟩
    have ho := own_none w w.heap.size 5 (Nat.le_refl _)
    have hB : Below w.heap.size w (w.alloc (.cells #[] 5)) := (Below.refl _ _).alloc (Nat.le_refl _) _
    go_enter Try.func48, Try.ntmps48
    go_wp2_with (at_builtin; refine wpList_append_bytes rfl (.tmp 5) (.tmp 6) _ rfl w.heap.size hT (xs := []) rfl ho rfl (hy.ext hB) (by omega) hB.size ?_; intro v3 w3 ho3 hg3 hat3)
    go_ret
    exact ⟨_, rfl, by simpa using ho3, below_own hB ho (Nat.le_refl _) hg3 hB.size⟩
end Go.Mun
