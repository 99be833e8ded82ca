/- The walks of package gas. -/
import Derived.Test.YtpliedimdhilcaaRegion
import Derived.Test.YtpliedimdhilcaaBlk
import Derived.Test.YtpliedimdhilcaaProg
namespace Go.Mun
open Go Go.RowKit Go.Proofs

/-- what so many bytes of data cost -/
def dataGas (l : List UInt8) : Int := (l.map fun b => if b = 0 then (4 : Int) else 16).sum
/-- the cells of a transaction: whether it makes an account, and its data -/
def TxOk (w : World) (cs : Array Value) (mk : Bool) (data : List UInt8) : Prop :=
  cs.size = 77 ∧ cs[43]? = some (.bool mk) ∧ ∃ A n c, cs[76]? = some (.slice A n c) ∧ Bytes w (.slice A n c) data
def OneCells (cs : Array Value) : Prop := ∀ u ∈ cs, u.oneCell' = true

theorem TxOk.ext {w w' : World} {cs : Array Value} {mk : Bool} {data : List UInt8} (h : TxOk w cs mk data) (hb : Below w.heap.size w w') : TxOk w' cs mk data := by
  obtain ⟨h1, h2, A, n, c, h3, h4⟩ := h
  exact ⟨h1, h2, A, n, c, h3, h4.ext hb⟩
theorem getElem_of {cs : Array Value} {i : Nat} {v : Value} (h : cs[i]? = some v) (hi : i < cs.size) : cs[i] = v := by
  rw [Array.getElem?_eq_getElem hi] at h
  injection h
theorem dataGas_take (l : List UInt8) {k : Nat} (h : k < l.length) : dataGas (l.take (k + 1)) = dataGas (l.take k) + if l[k] = 0 then 4 else 16 := by
  unfold dataGas
  rw [List.take_succ_eq_append_getElem h, List.map_append, List.sum_append]
  simp
theorem dataGas_bd (l : List UInt8) : 0 ≤ dataGas l ∧ dataGas l ≤ 16 * l.length := by
  unfold dataGas
  induction l with
  | nil => simp
  | cons b l ih =>
    simp only [List.map_cons, List.sum_cons, List.length_cons]
    split <;> omega

set_option maxRecDepth 100000 in
set_option maxHeartbeats 400000 in
theorem Intrinsic_any (cs : Array Value) (mk : Bool) (data : List UInt8) (w : World) (h : TxOk w cs mk data) (hd : data.length ≤ 100000) :
    Calls Try.prog 11 #[.agg cs] w fun e w' => e = .returned (.int .i64 (21000 + (if mk then 32000 else 0) + dataGas data)) ∧ Below w.heap.size w w' := by
  obtain ⟨hcs, hmk, A, n, c, hsl, _, _, _, e, h1, h2, h3, h4⟩ := h
  injection e with e1 e2 e3
  subst e1
  subst e2
  subst e3
  have hmk' := getElem_of hmk (by omega)
  have hsl' := getElem_of hsl (by omega)
  have h4' := h4.alloc (.cells cs 28)
  clear hmk hsl h4
  unfold maxLen at h3
  have hB : Below w.heap.size w (w.alloc (.cells cs 28)) := (Below.refl _ _).alloc (Nat.le_refl _) _
  generalize hbase : (21000 + (if mk = true then 32000 else 0) : Int) = base
  have hb0 : 21000 ≤ base ∧ base ≤ 53000 := by subst hbase; cases mk <;> simp
  cases mk
  · obtain rfl : base = 21000 := by subst hbase; simp
    clear hbase
    go_enter Try.func11, Try.ntmps11
    go_wp2
    go_loop [3, 13] (fun s i => ∃ k : Nat, k ≤ n ∧ i = .int .i64 k ∧ s = .int .i64 (21000 + dataGas (data.take k))) (fun _ i => n - (intOf i).toNat)
    case atStart => exact ⟨0, Nat.zero_le _, rfl, by simp [dataGas]⟩
    case round =>
      obtain ⟨k, hk, rfl, rfl⟩ := hrel
      have hbd := dataGas_bd (data.take k)
      have hlen : (data.take k).length ≤ k := List.length_take_le _ _
      by_cases hlt : k < n
      · obtain ⟨ad, rfl, hcell⟩ := h4'.byte (j := k) (by omega)
        have hst := dataGas_take data (k := k) (by omega)
        generalize dataGas (data.take k) = g at hbd hst ⊢
        generalize data[k] = x at hcell hst
        by_cases hx : x = 0
        · subst hx
          simp only [if_true] at hst
          have HS := Lib.hid hst
          clear hst
          have hc' : (w.alloc (.cells cs 28)).cell? (ad.add k) = some (.int .u8 0) := hcell
          clear hcell
          go_wp2
          go_round
          case rel => exact ⟨k + 1, by omega, by go_num, by rw [HS.out, Int.add_assoc]⟩
          case measure => simp [intOf]; omega
        · rw [if_neg hx] at hst
          have HS := Lib.hid hst
          clear hst
          have hx0 : ((x.toNat : Int) == 0) = false := by
            rw [beq_eq_false_iff_ne]
            intro e
            exact hx (UInt8.toNat_inj.1 (by show x.toNat = 0; omega))
          go_wp2
          go_round
          case rel => exact ⟨k + 1, by omega, by go_num, by rw [HS.out, Int.add_assoc]⟩
          case measure => simp [intOf]; omega
      · obtain rfl : k = n := by omega
        have hf : data.take k = data := List.take_of_length_le (by omega)
        go_wp2
        go_ret
        exact ⟨rfl, hB⟩
  · obtain rfl : base = 53000 := by subst hbase; simp
    clear hbase
    go_enter Try.func11, Try.ntmps11
    go_wp2
    go_loop [3, 13] (fun s i => ∃ k : Nat, k ≤ n ∧ i = .int .i64 k ∧ s = .int .i64 (53000 + dataGas (data.take k))) (fun _ i => n - (intOf i).toNat)
    case atStart => exact ⟨0, Nat.zero_le _, rfl, by simp [dataGas]⟩
    case round =>
      obtain ⟨k, hk, rfl, rfl⟩ := hrel
      have hbd := dataGas_bd (data.take k)
      have hlen : (data.take k).length ≤ k := List.length_take_le _ _
      by_cases hlt : k < n
      · obtain ⟨ad, rfl, hcell⟩ := h4'.byte (j := k) (by omega)
        have hst := dataGas_take data (k := k) (by omega)
        generalize dataGas (data.take k) = g at hbd hst ⊢
        generalize data[k] = x at hcell hst
        by_cases hx : x = 0
        · subst hx
          simp only [if_true] at hst
          have HS := Lib.hid hst
          clear hst
          have hc' : (w.alloc (.cells cs 28)).cell? (ad.add k) = some (.int .u8 0) := hcell
          clear hcell
          go_wp2
          go_round
          case rel => exact ⟨k + 1, by omega, by go_num, by rw [HS.out, Int.add_assoc]⟩
          case measure => simp [intOf]; omega
        · rw [if_neg hx] at hst
          have HS := Lib.hid hst
          clear hst
          have hx0 : ((x.toNat : Int) == 0) = false := by
            rw [beq_eq_false_iff_ne]
            intro e
            exact hx (UInt8.toNat_inj.1 (by show x.toNat = 0; omega))
          go_wp2
          go_round
          case rel => exact ⟨k + 1, by omega, by go_num, by rw [HS.out, Int.add_assoc]⟩
          case measure => simp [intOf]; omega
      · obtain rfl : k = n := by omega
        have hf : data.take k = data := List.take_of_length_le (by omega)
        go_wp2
        go_ret
        exact ⟨rfl, hB⟩

/-- what a transaction costs ahead of all that it does -/
def txGas (mk : Bool) (data : List UInt8) : Int := 21000 + (if mk then 32000 else 0) + dataGas data
theorem Intrinsic_tx (cs : Array Value) (mk : Bool) (data : List UInt8) (w : World) (h : TxOk w cs mk data) (hd : data.length ≤ 100000) :
    Calls Try.prog 11 #[.agg cs] w fun e w' => e = .returned (.int .i64 (txGas mk data)) ∧ Below w.heap.size w w' := Intrinsic_any cs mk data w h hd

/-- how many words so many bytes have -/
def wordsOf (n : Int) : Int := if 0 < n then (n + 31) / 32 else 0
def shareOf (n : Int) : Int := if 0 < n then n - n / 64 else 0

set_option maxHeartbeats 400000 in
theorem Words_any (n : Int) (w : World) (h0 : -9223372036854775808 ≤ n) (h1 : n ≤ 4611686018427387904) :
    Calls Try.prog 12 #[.int .i64 n] w fun e w' => e = .returned (.int .i64 (wordsOf n)) ∧ w = w' := by
  by_cases hn : 0 < n
  · by_cases hr : 0 < n % 32
    · have E : Hid (n / 32 + 1 = wordsOf n) := by show _ = wordsOf n; unfold wordsOf; rw [if_pos hn]; omega
      go_enter Try.func12, Try.ntmps12
      go_wp2
      go_ret
      exact ⟨ret_i E.out, rfl⟩
    · have E : Hid (n / 32 = wordsOf n) := by show _ = wordsOf n; unfold wordsOf; rw [if_pos hn]; omega
      go_enter Try.func12, Try.ntmps12
      go_wp2
      go_ret
      exact ⟨ret_i E.out, rfl⟩
  · have E : Hid (0 = wordsOf n) := by show _ = wordsOf n; unfold wordsOf; rw [if_neg hn]
    go_enter Try.func12, Try.ntmps12
    go_wp2
    go_ret
    exact ⟨ret_i E.out, rfl⟩

theorem Share_any (n : Int) (w : World) (h0 : -9223372036854775808 ≤ n) (h1 : n ≤ 4611686018427387904) :
    Calls Try.prog 13 #[.int .i64 n] w fun e w' => e = .returned (.int .i64 (shareOf n)) ∧ w = w' := by
  by_cases hn : 0 < n
  · have E : Hid (n - n / 64 = shareOf n) := by show _ = shareOf n; unfold shareOf; rw [if_pos hn]
    go_enter Try.func13, Try.ntmps13
    go_wp2
    go_ret
    exact ⟨ret_i E.out, rfl⟩
  · have E : Hid (0 = shareOf n) := by show _ = shareOf n; unfold shareOf; rw [if_neg hn]
    go_enter Try.func13, Try.ntmps13
    go_wp2
    go_ret
    exact ⟨ret_i E.out, rfl⟩

theorem alive14 (w : World) : Calls Try.prog 10 #[] w fun e w' => e = .returned (.bool true) ∧ w = w' := by
  go_enter Try.func10, Try.ntmps10
  go_wp2_with (go_at_call 13; refine (Share_any 64 _ (by omega) (by omega)).mono ?_; rintro e w' ⟨rfl, rfl⟩)
  go_ret
  exact ⟨rfl, rfl⟩
end Go.Mun
