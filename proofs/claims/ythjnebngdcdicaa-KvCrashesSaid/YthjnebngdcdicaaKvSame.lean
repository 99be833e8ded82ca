/- Rows of pairs, the same or not; the acts of chapter 23, and how many there are. -/
import Derived.Test.YthjnebngdcdicaaKvBytes
import Derived.Test.YthjnebngdcdicaaKvDone
import Derived.Test.YthjnebngdcdicaaKvLit
namespace Go.Mun
open Go Go.RowKit Go.ChangeShapes Go.WideShapes Go.ChangeAt Go.Proofs Go.Maps

theorem str_nes_ne {a b : List UInt8} (h : a ≠ b) : ((⟨a.toArray⟩ : ByteArray) != ⟨b.toArray⟩) = true := by rw [str_ne, decide_eq_false h]; rfl
theorem pairs_more {P Q : PLB} {k : Nat} (h : ∀ j, j < k → P[j]? = Q[j]?) {x : PairB} (hp : P[k]? = some x) (hq : Q[k]? = some x) : ∀ j, j < k + 1 → P[j]? = Q[j]? := fun j hj => by
  by_cases e : j = k
  · rw [e, hp, hq]
  · exact h j (by omega)
theorem pairs_all {P Q : PLB} {n : Nat} (h1 : P.length = n) (h2 : Q.length = n) (h : ∀ j, j < n → P[j]? = Q[j]?) : P = Q := by
  refine List.ext_getElem? fun j => ?_
  by_cases e : j < n
  · exact h j e
  · rw [List.getElem?_eq_none (by omega), List.getElem?_eq_none (by omega)]
set_option maxRecDepth 100000 in
set_option maxHeartbeats 4000000 in
theorem SamePairs_opt (va vb : Value) (P Q : PLB) (w : World) (ha : SliceOf 2 rPair w va P) (hb : SliceOf 2 rPair w vb Q) :
    Calls Try.prog 23 #[va, vb] w fun e w' => e = .returned (.bool (decide (P = Q))) ∧ Below w.heap.size w w' := by
  obtain ⟨A1, n, c1, xs, rfl, g1, g2, g3, g4, g5, g6⟩ := ha
  obtain ⟨A2, n', c2, ys, rfl, i1, i2, i3, i4, i5, i6⟩ := hb
  unfold maxLen at g4 i4
  by_cases hnn : n = n'
  case neg =>
    have hne : P ≠ Q := fun e => hnn (by rw [← g1, ← i1, e])
    have dn : ((n : Int) != n') = true := by rw [bne_iff_ne]; omega
    rw [decide_eq_false hne]
    clear g1 g2 g5 g6 i1 i2 i5 i6 hne
    go_enter Try.func23, Try.ntmps23
    go_wp2
    go_ret
    exact ⟨rfl, Below.refl _ _⟩
  subst hnn
  have dn : ((n : Int) != n) = false := by simp
  have H1 := Lib.hid (fun w' (hb : Below w.heap.size w w') k (hk : k < n) => pair_at (g5.ext hb) g1 g2 g6 hk)
  have H2 := Lib.hid (fun w' (hb : Below w.heap.size w w') k (hk : k < n) => pair_at (i5.ext hb) i1 i2 i6 hk)
  have HL := Lib.hid (And.intro g1 i1)
  have HS := Lib.hid (fun (w : World) (A : Option Addr) (n c : Nat) (l : List UInt8) (h : Bytes w (.slice A n c) l) => run_str (P := Try.prog) (src := 22) (dst := 9) h Try.underlying22 Try.underlying5 Try.underlying9)
  clear g1 g2 g5 g6 i1 i2 i5 i6
  go_enter Try.func23, Try.ntmps23
  go_wp2
  go_loopw [5] (fun i wr => ∃ k : Nat, k ≤ n ∧ i = .int .i64 k ∧ Below w.heap.size w wr ∧ ∀ j, j < k → P[j]? = Q[j]?) (fun i _ => n - (RowKit.intOf i).toNat)
  case atStart => exact ⟨0, Nat.zero_le _, rfl, Below.refl _ _, fun j hj => absurd hj (Nat.not_lt_zero _)⟩
  case round =>
    obtain ⟨k, hk, rfl, hBr, hall⟩ := hrel
    have HALL := Lib.hid hall
    clear hall
    by_cases hlt : k < n
    · clear hk
      obtain ⟨ad1, p, kv1, vv1, rfl, p0, p1, hp, b1, b2⟩ := H1.out wr hBr k hlt
      obtain ⟨ad2, p', kv2, vv2, rfl, r0, r1, hp', b3, b4⟩ := H2.out wr hBr k hlt
      obtain ⟨key, val⟩ := p
      obtain ⟨key', val'⟩ := p'
      simp only at b1 b2 b3 b4
      obtain ⟨AK1, nk1, cK1, h1, _⟩ := id b1
      subst h1
      obtain ⟨AV1, nv1, cV1, h1, _⟩ := id b2
      subst h1
      obtain ⟨AK2, nk2, cK2, h1, _⟩ := id b3
      subst h1
      obtain ⟨AV2, nv2, cV2, h1, _⟩ := id b4
      subst h1
      have q1 := fun m => HS.out _ _ _ _ _ (Bytes_drewN (b1.ext hBr) m)
      have q2 := fun m => HS.out _ _ _ _ _ (Bytes_drewN (b2.ext hBr) m)
      have q3 := fun m => HS.out _ _ _ _ _ (Bytes_drewN (b3.ext hBr) m)
      have q4 := fun m => HS.out _ _ _ _ _ (Bytes_drewN (b4.ext hBr) m)
      have HP := Lib.hid (And.intro hp hp')
      clear hp hp' b1 b2 b3 b4
      have f1 : decide ((k : Int) < n) = true := decide_eq_true (by omega)
      have z1 : (0 : Int) ≤ k := by omega
      have z2 : (k : Int) < n := by omega
      by_cases ek : key = key'
      · subst ek
        have s1 := str_nes key
        by_cases ev : val = val'
        · subst ev
          have s2 := str_nes val
          go_upto_region 6 with (fail)
          go_quiet (fail)
          have hBq := below_step hBr (below_drewN (Below.refl wr.heap.size wr) nq)
          go_wp2
          go_roundw
          case rel => exact ⟨k + 1, by omega, by go_num, hBq, pairs_more HALL.out HP.out.1 HP.out.2⟩
          case measure => simp [RowKit.intOf]; omega
        · have s2 := str_nes_ne ev
          have s3 : (val == val') = false := beq_eq_false_iff_ne.2 ev
          have HF := Lib.hid (show decide (P = Q) = false from decide_eq_false fun e => by have h1 := HP.out.1; rw [e, HP.out.2] at h1; injection h1 with h1; injection h1 with _ h1; exact ev h1.symm)
          clear ev
          go_upto_region 6 with (fail)
          go_quiet (fail)
          have hBq := below_step hBr (below_drewN (Below.refl wr.heap.size wr) nq)
          go_wp2
          go_ret
          exact ⟨by rw [HF.out]; rfl, hBq⟩
      · have s1 := str_nes_ne ek
        have s3 : (key == key') = false := beq_eq_false_iff_ne.2 ek
        have HF := Lib.hid (show decide (P = Q) = false from decide_eq_false fun e => by have h1 := HP.out.1; rw [e, HP.out.2] at h1; injection h1 with h1; injection h1 with h1 _; exact ek h1.symm)
        clear ek
        go_upto_region 6 with (fail)
        go_quiet (fail)
        have hBq := below_step hBr (below_drewN (Below.refl wr.heap.size wr) nq)
        go_wp2
        go_ret
        exact ⟨by rw [HF.out]; rfl, hBq⟩
    · obtain rfl : k = n := by omega
      have f1 : decide ((k : Int) < k) = false := decide_eq_false (by omega)
      have HE := Lib.hid (pairs_all HL.out.1 HL.out.2 HALL.out)
      go_wp2
      go_ret
      exact ⟨by rw [decide_eq_true HE.out]; rfl, hBr⟩
theorem SamePairs_no (va vb : Value) (P Q : PLB) (w : World) (ha : SliceOf 2 rPair w va P) (hb : SliceOf 2 rPair w vb Q) (h : P ≠ Q) :
    Calls Try.prog 23 #[va, vb] w fun e w' => e = .returned (.bool false) ∧ Below w.heap.size w w' := by
  have h1 := SamePairs_opt va vb P Q w ha hb
  rw [decide_eq_false h] at h1
  exact h1
/-- an act: Compact, or a Write of changes -/
structure ActK where
  compact : Bool
  l : List Rec
def rActK : Reader ActK := fun w cs x => cs.length = 2 → ∃ v, cs = [.bool x.compact, v] ∧ SliceOf 3 rOp w v x.l
theorem rActK_stays : rActK.Stays := fun w w' cs a hb h hl => by
  obtain ⟨v, e, h1⟩ := h hl
  exact ⟨v, e, h1.ext rOp_stays hb⟩
set_option maxRecDepth 100000 in
theorem opens_actK {H : Type} (enc : TypeId × Value → H) : Opens enc Try.prog 0 (fun _ => true) true 42 rActK := by
  intro w fuel cs x hx
  obtain ⟨n0, y0, h0⟩ := trod_at Try.underlying42 hx 0 rfl (e := 4) (off := 0) (size := 1) rfl rfl (by kernel_rfl)
  obtain ⟨n1, y1, h1⟩ := trod_at Try.underlying42 hx 1 rfl (e := 33) (off := 1) (size := 1) rfl rfl (by kernel_rfl)
  obtain ⟨b, e0⟩ := opens_bool enc 0 (fun _ => true) true Try.underlying4 w n0 _ y0 h0
  obtain ⟨l, v, e1, b1⟩ := opens_ops enc w n1 _ y1 h1
  unfold rBool at e0
  refine ⟨⟨b, l⟩, fun hl => ⟨v, ?_, b1⟩⟩
  match cs, hl with
  | [a0, a1], _ =>
    simp at e0 e1
    subst e0 e1
    rfl
/-- an act of a row -/
theorem actK_at {w w' : World} {A : Option Addr} {n : Nat} {xs : List Value} {acts : List ActK} (hr : Rd w' A xs) (hl : acts.length = n) (hx : xs.length = n * 2) (hb : ∀ i (h : i < acts.length), rActK w (chunk xs 2 i) acts[i]) {k : Nat} (hk : k < n) :
    ∃ (ad : Addr) (a : ActK) (vl : Value), A = some ad ∧ w'.cell? (ad.add (k * 2)) = some (.bool a.compact) ∧ w'.cell? ⟨(ad.add (k * 2)).block, (ad.add (k * 2)).off + 1, none⟩ = some vl ∧ acts[k]? = some a ∧ SliceOf 3 rOp w vl a.l := by
  have hc : (chunk xs 2 k).length = 2 := by unfold chunk; rw [List.length_take, List.length_drop]; omega
  obtain ⟨vl, e, h1⟩ := hb k (by omega) hc
  have hg : ∀ j, j < 2 → xs[k * 2 + j]? = (chunk xs 2 k)[j]? := fun j hj => by
    unfold chunk
    rw [List.getElem?_take, if_pos hj, List.getElem?_drop]
  obtain ⟨ad, rfl, c0⟩ := hr (k * 2) _ (by have := hg 0 (by omega); rw [Nat.add_zero] at this; rw [this, e]; rfl)
  obtain ⟨ad', e1, c1⟩ := hr (k * 2 + 1) vl (by rw [hg 1 (by omega), e]; rfl)
  injection e1 with e1
  subst e1
  rw [add_beside _ _ (by omega)] at c1
  exact ⟨_, acts[k], vl, rfl, c0, c1, List.getElem?_eq_getElem (by omega), h1⟩
/-- not too many -/
structure SmallA (l : List ActK) : Prop where
  len : l.length ≤ 30
  each : ∀ a ∈ l, SmallL a.l
theorem small_more {l : List ActK} {k : Nat} {a : ActK} (h : ∀ j x, j < k → l[j]? = some x → SmallL x.l) (ha : l[k]? = some a) (hs : SmallL a.l) : ∀ j x, j < k + 1 → l[j]? = some x → SmallL x.l := fun j x hj hx => by
  by_cases e : j = k
  · rw [e, ha] at hx
    injection hx with hx
    rw [← hx]
    exact hs
  · exact h j x (by omega) hx
set_option maxRecDepth 100000 in
set_option maxHeartbeats 1000000 in
theorem BigA_any (v : Value) (l : List ActK) (w : World) (h : SliceOf 2 rActK w v l) :
    Calls Try.prog 15 #[v] w fun e w' => ∃ B, e = .returned (.bool B) ∧ w = w' ∧ (B = false ↔ SmallA l) := by
  obtain ⟨A, n, c, xs, rfl, g1, g2, g3, g4, g5, g6⟩ := h
  unfold maxLen at g4
  by_cases c1 : 30 < n
  · have d1 : decide ((30 : Int) < n) = true := decide_eq_true (by omega)
    go_enter Try.func15, Try.ntmps15
    go_wp2
    go_ret
    exact ⟨true, rfl, rfl, (fun e => by cases e), fun h => by have := h.len; omega⟩
  · have d1 : decide ((30 : Int) < n) = false := decide_eq_false (by omega)
    have HX := Lib.hid (fun k (hk : k < n) => actK_at g5 g1 g2 g6 hk)
    have HL := Lib.hid g1
    clear g1 g2 g5 g6
    go_enter Try.func15, Try.ntmps15
    go_wp2
    go_loopw [3] (fun i wr => ∃ k : Nat, k ≤ n ∧ i = .int .i64 k ∧ wr = w ∧ ∀ j x, j < k → l[j]? = some x → SmallL x.l) (fun i _ => n - (RowKit.intOf i).toNat)
    case atStart => exact ⟨0, Nat.zero_le _, rfl, rfl, fun j r h => by omega⟩
    case round =>
      obtain ⟨k, hk, rfl, rfl, hall⟩ := hrel
      have HA := Lib.hid hall
      clear hall
      by_cases hlt : k < n
      · obtain ⟨ad, a, vl, rfl, q0, q1, ha, hs⟩ := HX.out k hlt
        have HR := Lib.hid ha
        obtain ⟨A1, n1, c1, xs1, h1, _⟩ := id hs
        subst h1
        have f0 : decide ((k : Int) < n) = true := decide_eq_true (by omega)
        have z1 : (0 : Int) ≤ k := by omega
        have z2 : (k : Int) < n := by omega
        by_cases hsm : SmallL a.l
        · have CB := Lib.hid (Big_no _ _ _ hs hsm)
          have HS := Lib.hid hsm
          clear ha hs hsm
          go_wp2_with (first
            | (go_at_call 27; (refine CB.out.mono ?_); rintro e w1 ⟨rfl, rfl⟩)
            | fail)
          go_roundw
          case rel => exact ⟨k + 1, by omega, by go_num, (by first | exact rfl | trivial), small_more HA.out HR.out HS.out⟩
          case measure => simp [RowKit.intOf]; omega
        · have CB := Lib.hid (Big_yes _ _ _ hs hsm)
          have HS := Lib.hid hsm
          clear ha hs hsm
          go_wp2_with (first
            | (go_at_call 27; (refine CB.out.mono ?_); rintro e w1 ⟨rfl, rfl⟩)
            | fail)
          go_ret
          exact ⟨true, rfl, rfl, (fun e => by cases e), fun h => absurd (h.each a (List.mem_of_getElem? HR.out)) HS.out⟩
      · obtain rfl : k = n := by omega
        have f0 : decide ((k : Int) < k) = false := decide_eq_false (by omega)
        go_wp2
        go_ret
        exact ⟨false, rfl, rfl, (fun _ => ⟨by rw [HL.out]; omega, fun a ha => by
          obtain ⟨j, hj, e⟩ := List.mem_iff_getElem.1 ha
          exact HA.out j a (by rw [← HL.out]; exact hj) (by rw [List.getElem?_eq_getElem hj, e])⟩), fun _ => rfl⟩
end Go.Mun
