/- The walks of munimentslaw22.Big and munimentsref19.Batch. -/
import Derived.Test.YtmaaejicfpfcdaaRpPure
import Derived.Test.YtmaaejicfpfcdaaRpAlive
import Derived.Test.YtmaaejicfpfcdaaRecRef
namespace Go.Mun
open Go Go.RowKit Go.Proofs

/-- one change of a row, whole -/
theorem op_full {w w' : World} {A : Option Addr} {n : Nat} {xs : List Value} {rs : List Rec} (hr : Rd w' A xs) (hl : rs.length = n) (hx : xs.length = n * 3) (hb : ∀ i (h : i < rs.length), rOp w (chunk xs 3 i) rs[i]) {k : Nat} (hk : k < n) :
    ∃ (ad : Addr) (r : Rec) (kv vv : Value), A = some ad ∧ w'.cell? (ad.add (k * 3)) = some (.bool r.del) ∧ w'.cell? ⟨(ad.add (k * 3)).block, (ad.add (k * 3)).off + 1, none⟩ = some kv ∧ w'.cell? ⟨(ad.add (k * 3)).block, (ad.add (k * 3)).off + 2, none⟩ = some vv ∧
      rs[k]? = some r ∧ r.kind = 1 ∧ r.n = 0 ∧ Bytes w kv r.key ∧ Bytes w vv r.value := by
  have hc : (chunk xs 3 k).length = 3 := by unfold chunk; rw [List.length_take, List.length_drop]; omega
  obtain ⟨kv, vv, e, h1, h2, h3, h4⟩ := hb k (by omega) hc
  have hg : ∀ j, j < 3 → xs[k * 3 + j]? = (chunk xs 3 k)[j]? := fun j hj => by
    unfold chunk
    rw [List.getElem?_take, if_pos hj, List.getElem?_drop]
  obtain ⟨ad, rfl, c0⟩ := hr (k * 3) _ (by have := hg 0 (by omega); rw [Nat.add_zero] at this; rw [this, e]; rfl)
  obtain ⟨ad', e1, c1⟩ := hr (k * 3 + 1) kv (by rw [hg 1 (by omega), e]; rfl)
  obtain ⟨ad'', e2, c2⟩ := hr (k * 3 + 2) vv (by rw [hg 2 (by omega), e]; rfl)
  injection e1 with e1
  injection e2 with e2
  subst e1 e2
  rw [add_beside _ _ (by omega)] at c1 c2
  exact ⟨_, rs[k], kv, vv, rfl, c0, c1, c2, List.getElem?_eq_getElem (by omega), h1, h2, h3, h4⟩
theorem take_more {l : List Rec} {k : Nat} {r : Rec} (h : l[k]? = some r) : l.take (k + 1) = l.take k ++ [r] := by
  obtain ⟨hk, hx⟩ := List.getElem?_eq_some_iff.1 h
  rw [List.take_succ_eq_append_getElem hk, hx]

set_option maxRecDepth 100000 in
set_option maxHeartbeats 1000000 in
theorem Big_any (v : Value) (l : List Rec) (w : World) (h : SliceOf 3 rOp w v l) :
    Calls Try.prog 30 #[v] w fun e w' => ∃ B, e = .returned (.bool B) ∧ w = w' ∧ (B = false ↔ SmallL l) := by
  obtain ⟨A, n, c, xs, rfl, g1, g2, g3, g4, g5, g6⟩ := h
  unfold maxLen at g4
  by_cases c1 : 60 < n
  · have d1 : decide ((60 : Int) < n) = true := decide_eq_true (by omega)
    go_enter Try.func30, Try.ntmps30
    go_wp2
    go_ret
    exact ⟨true, rfl, rfl, (fun e => by cases e), fun h => by have := h.1; omega⟩
  · have d1 : decide ((60 : Int) < n) = false := decide_eq_false (by omega)
    have HX := Lib.hid (fun k (hk : k < n) => op_full g5 g1 g2 g6 hk)
    have HL := Lib.hid g1
    clear g1 g2 g5 g6
    go_enter Try.func30, Try.ntmps30
    go_wp2
    go_loopw [3] (fun i wr => ∃ k : Nat, k ≤ n ∧ i = .int .i64 k ∧ wr = w ∧ ∀ j r, j < k → l[j]? = some r → OpOk r) (fun i _ => n - (intOf i).toNat)
    case atStart => exact ⟨0, Nat.zero_le _, rfl, rfl, fun j r h => by omega⟩
    case round =>
      obtain ⟨k, hk, rfl, rfl, hall⟩ := hrel
      by_cases hlt : k < n
      · obtain ⟨ad, r, kv, vv, rfl, q0, q1, q2, hr, hr1, hr2, hbk, hbv⟩ := HX.out k hlt
        obtain ⟨AK, m, cK, rfl, k1, k2, k3, k4⟩ := hbk
        obtain ⟨AV, m', cV, rfl, v1, v2, v3, v4⟩ := hbv
        clear k4 v4
        unfold maxLen at k3 v3
        have HK := Lib.hid k1
        have HV := Lib.hid v1
        have HR := Lib.hid (And.intro hr (And.intro hr1 hr2))
        have HA := Lib.hid hall
        clear k1 v1 hr hr1 hr2 hall
        by_cases e1 : 300 < m
        · have f1 : decide ((300 : Int) < m) = true := decide_eq_true (by omega)
          go_wp2
          go_ret
          exact ⟨true, rfl, rfl, (fun e => by cases e), fun h => by have := (h.2 r (List.mem_of_getElem? HR.out.1)).key; rw [HK.out] at this; omega⟩
        · have f1 : decide ((300 : Int) < m) = false := decide_eq_false (by omega)
          by_cases e2 : 300 < m'
          · have f2 : decide ((300 : Int) < m') = true := decide_eq_true (by omega)
            go_wp2
            go_ret
            exact ⟨true, rfl, rfl, (fun e => by cases e), fun h => by have := (h.2 r (List.mem_of_getElem? HR.out.1)).value; rw [HV.out] at this; omega⟩
          · have f2 : decide ((300 : Int) < m') = false := decide_eq_false (by omega)
            go_wp2
            go_roundw
            case rel =>
              have hall2 : ∀ j x, j < k + 1 → l[j]? = some x → OpOk x := by
                intro j x hj hx
                by_cases hjk : j < k
                · exact HA.out j x hjk hx
                · obtain rfl : j = k := by omega
                  rw [HR.out.1] at hx
                  injection hx with hx
                  subst hx
                  exact ⟨HR.out.2.1, HR.out.2.2, by rw [HK.out]; omega, by rw [HV.out]; omega⟩
              first
                | exact ⟨k + 1, by omega, by go_num, rfl, hall2⟩
                | exact ⟨k + 1, by omega, by go_num, trivial, hall2⟩
                | ((repeat apply Exists.intro); exact ⟨⟨k + 1, by omega, by go_num, rfl, hall2⟩, rfl⟩)
            case measure => simp [intOf]; omega
      · obtain rfl : k = n := by omega
        have HA := Lib.hid hall
        clear hall
        go_wp2
        go_ret
        refine ⟨false, rfl, rfl, (fun _ => ⟨by rw [HL.out]; omega, fun r hr => ?_⟩), fun _ => rfl⟩
        obtain ⟨j, hj, hx⟩ := List.getElem_of_mem hr
        exact HA.out j r (by rw [HL.out] at hj; exact hj) (by rw [List.getElem?_eq_getElem hj, hx])

theorem Big_no (v : Value) (l : List Rec) (w : World) (h : SliceOf 3 rOp w v l) (hs : SmallL l) :
    Calls Try.prog 30 #[v] w fun e w' => e = .returned (.bool false) ∧ w = w' := by
  refine (Big_any v l w h).mono ?_
  rintro e w' ⟨B, rfl, rfl, hB⟩
  rw [hB.2 hs]
  exact ⟨rfl, rfl⟩
theorem Big_yes (v : Value) (l : List Rec) (w : World) (h : SliceOf 3 rOp w v l) (hs : ¬ SmallL l) :
    Calls Try.prog 30 #[v] w fun e w' => e = .returned (.bool true) ∧ w = w' := by
  refine (Big_any v l w h).mono ?_
  rintro e w' ⟨B, rfl, rfl, hB⟩
  cases B with
  | false => exact absurd (hB.1 rfl) hs
  | true => exact ⟨rfl, rfl⟩
theorem PackRecord_ok (r : Rec) (kv vv : Value) (w : World) (hk : Bytes w kv r.key) (hv : Bytes w vv r.value) (hn1 : -9223372036854775808 ≤ r.n) (hn2 : r.n ≤ 9223372036854775807) (he : r.err = 0) :
    Calls Try.prog 22 #[.agg #[.int .i64 r.kind, .bool r.del, kv, vv, .int .i64 r.n]] w fun e w' => ∃ v, e = .returned (.tuple #[v, .int .i64 0]) ∧ Below w.heap.size w w' ∧
      w'.ownsRow w.heap.size 5 1 v r.bytes.length (bv r.bytes) := by
  refine (PackRecord_any r kv vv w hk hv hn1 hn2).mono ?_
  rintro e w' ⟨hb, ⟨h0, _⟩ | ⟨_, v, rfl, ho⟩⟩
  · exact absurd he h0
  · exact ⟨v, rfl, hb, ho⟩
theorem row_b {w : World} {B : Nat} {e : TypeId} {v : Value} {a b c : List UInt8} (h : w.ownsRow B e 1 v (a.length + b.length) (bv (a ++ b))) (hc : c = a ++ b) : w.ownsRow B e 1 v c.length (bv c) := by
  subst hc
  rw [List.length_append]
  exact h

set_option maxRecDepth 100000 in
set_option maxHeartbeats 1000000 in
theorem RefBatch_ok (v : Value) (l : List Rec) (w : World) (h : SliceOf 3 rOp w v l) (hs : SmallL l) :
    Calls Try.prog 31 #[v] w fun e w' => ∃ v', e = .returned (.tuple #[v', .int .i64 0]) ∧ w'.ownsRow w.heap.size 5 1 v' (batchB l).length (bv (batchB l)) ∧ Below w.heap.size w w' := by
  have hT := bytesTyR
  obtain ⟨A, n, c, xs, rfl, g1, g2, g3, g4, g5, g6⟩ := h
  unfold maxLen at g4
  have HS := Lib.hid hs
  have h60 : n ≤ 60 := by have := hs.1; omega
  have HX := Lib.hid (fun w' (hB : Below w.heap.size w w') k (hk : k < n) => op_full (g5.ext hB) g1 g2 g6 hk)
  have HL := Lib.hid g1
  have HT := Lib.hid (show l.take n = l from List.take_of_length_le (by omega))
  have HE := Lib.hid (endR_err (n := n) (by omega))
  have HEL := Lib.hid (endR_len (n := n) (by omega))
  have HBD := Lib.hid (fun k => opsB_bd (l := l.take k) (fun r hr => hs.2 r (List.mem_of_mem_take hr)))
  have d1 : decide ((100000 : Int) < n) = false := decide_eq_false (by omega)
  clear g1 g2 g5 g6 hs
  go_enter Try.func31, Try.ntmps31
  go_wp2
  go_loopw [4, 5] (fun vo i wr => ∃ k : Nat, k ≤ n ∧ i = .int .i64 k ∧ Below w.heap.size w wr ∧ wr.ownsRow w.heap.size 5 1 vo (opsB (l.take k)).length (bv (opsB (l.take k)))) (fun _ i _ => n - (intOf i).toNat)
  case atStart => exact ⟨0, Nat.zero_le _, rfl, Below.refl _ _, own_zero _ _⟩
  case round =>
    obtain ⟨k, hk, rfl, hBr, hor⟩ := hrel
    have hbd : (opsB (l.take k)).length ≤ 42000 := by have := HBD.out k; rw [List.length_take] at this; omega
    by_cases hlt : k < n
    · obtain ⟨ad, r, kv, vv, rfl, q0, q1, q2, hr, hr1, hr2, hbk, hbv⟩ := HX.out wr hBr k hlt
      have hro : OpOk r := HS.out.2 r (List.mem_of_getElem? hr)
      have HRE := Lib.hid hro.err
      have hrl := hro.len
      have HTM := Lib.hid (show opsB (l.take (k + 1)) = opsB (l.take k) ++ r.bytes by rw [take_more hr, opsB_append]; simp [opsB])
      obtain ⟨kind, del, key, value, nn⟩ := r
      simp only at hr1 hr2 hbk hbv q0
      subst hr1 hr2
      obtain ⟨AK, m, cK, rfl, _⟩ := id hbk
      obtain ⟨AV, m', cV, rfl, _⟩ := id hbv
      have HKV := Lib.hid (And.intro hbk hbv)
      clear hro hr hbk hbv
      go_wp2_with (first
        | (go_at_call 22; refine (PackRecord_ok ⟨1, del, key, value, 0⟩ _ _ _ (HKV.out.1.ext hBr) (HKV.out.2.ext hBr) (by simp) (by simp) HRE.out).mono ?_; rintro e w3 ⟨v3, rfl, hb3, ho3⟩; have hB3 := below_step hBr hb3; have hor3 := own_ext hor hb3)
        | (at_builtin; refine wpList_append_bytes rfl (.tmp 31) (.tmp 32) _ rfl w.heap.size hT rfl hor3 rfl (Bytes.own ho3) (by omega) hB3.size ?_; intro v4 w4 ho4 hg4 hat4; have hB4 := below_own hB3 hor3 (Nat.le_refl _) hg4 hB3.size)
        | fail)
      go_roundw
      case rel => exact ⟨k + 1, by omega, by go_num, hB4, row_b ho4 HTM.out⟩
      case measure => simp [intOf]; omega
    · obtain rfl : k = n := by omega
      rw [HT.out] at hor hbd
      go_wp2_with (first
        | (go_at_call 22; refine (PackRecord_ok (endR k) _ _ _ (Bytes.nil _) (Bytes.nil _) (by show (-9223372036854775808 : Int) ≤ (k : Int); omega) (by show (k : Int) ≤ 9223372036854775807; omega) HE.out).mono ?_; rintro e w3 ⟨v3, rfl, hb3, ho3⟩; have hB3 := below_step hBr hb3; have hor3 := own_ext hor hb3)
        | (at_builtin; refine wpList_append_bytes rfl (.tmp 41) (.tmp 42) _ rfl w.heap.size hT rfl hor3 rfl (Bytes.own ho3) (by rw [HEL.out]; omega) hB3.size ?_; intro v4 w4 ho4 hg4 hat4; have hB4 := below_own hB3 hor3 (Nat.le_refl _) hg4 hB3.size)
        | fail)
      go_ret2
      exact ⟨_, rfl, row_b ho4 (by unfold batchB; rw [HL.out]), hB4⟩
/-- two lists in a row -/
theorem two_rows {w : World} {g : Nat} {e : TypeId} {v u : Value} {l m : List Rec} (hb : Blk w g e #[v, u]) (h1 : SliceOf 3 rOp w v l) (h2 : SliceOf 3 rOp w u m) : SliceOf 1 (rSlice 3 rOp) w (.slice (some ⟨g, 0, none⟩) 2 2) [l, m] := by
  refine ⟨_, 2, 2, [v, u], rfl, rfl, rfl, Nat.le_refl _, by unfold maxLen; omega, hb.rd, fun i hi => ?_⟩
  match i, hi with
  | 0, _ => exact ⟨v, rfl, h1⟩
  | 1, _ => exact ⟨u, rfl, h2⟩
theorem same_pair {a b c d : List Rec} (h1 : SameL a c) (h2 : SameL b d) : SameLL [a, b] [c, d] := by
  refine ⟨rfl, fun k x y hx hy => ?_⟩
  match k, hx, hy with
  | 0, hx, hy => simp at hx hy; subst hx hy; exact h1
  | 1, hx, hy => simp at hx hy; subst hx hy; exact h2
  | k + 2, hx, _ => simp at hx
open Go.ChangeShapes Go.WideShapes Go.ChangeAt in
theorem opens_ops {H : Type} (enc : TypeId × Value → H) : Opens enc Try.prog 0 (fun _ => true) true 49 (rSlice 3 rOp) := opens_slice enc 0 (fun _ => true) true Try.underlying49 (by kernel_rfl) (opens_op enc)
end Go.Mun
