/- 'munimentslaw14.GasRises' answers true at every input, and leaves what it was given. No condition. -/
import Derived.Test.YtpliedimdhilcaaGas
import Derived.Test.YtpliedimdhilcaaGasTx
import Derived.Test.YtpliedimdhilcaaRows
namespace Go.Proofs.Ytpliedimdhilcaa.GasRises
open Go Go.RowKit Go.Mun Go.Proofs

theorem bytesTy : SliceTy Try.prog 26 5 (.int .u8 0) 1 1 := SliceTy.mk' Try.underlying26 (by kernel_rfl) rfl (by omega)
theorem txTy : AggTy Try.prog 28 77 := ⟨⟨_, Try.underlying28, rfl⟩, by kernel_rfl⟩
noncomputable def zTx : Value := ((Try.prog.info? 28).bind (·.zero)).getD undef
theorem zTx_info : (Try.prog.info? 28).bind (·.zero) = some zTx := by kernel_rfl
theorem zTx_size : zTx.cells.size = 77 := by kernel_rfl
theorem bool_size : (Try.prog.info? 4).map (·.size) = some 1 := by kernel_rfl
theorem bytes_size : (Try.prog.info? 26).map (·.size) = some 1 := by kernel_rfl

/-- what making an account, or not, costs more -/
def turnOf (mk : Bool) : Int := if mk then -32000 else 32000
theorem turn_eq (mk : Bool) (data : List UInt8) : txGas (!mk) data - txGas mk data = turnOf mk := by
  unfold turnOf txGas
  cases mk <;> simp <;> omega
theorem base_bd (mk : Bool) (data : List UInt8) (_ : data.length ≤ 2000) : 0 ≤ txGas mk data ∧ txGas mk data ≤ 100000 := by
  have := dataGas_bd data
  unfold txGas
  cases mk <;> simp <;> omega
theorem more_eq (mk : Bool) (data : List UInt8) (x : UInt8) (_ : data.length ≤ 2000) (more : Int) (hm : more = if x = 0 then 4 else 16) : txGas mk (data ++ [x]) = txGas mk data + more := by
  subst hm
  unfold txGas dataGas
  rw [List.map_append, List.sum_append]
  simp
  omega
theorem words_bd (n : Int) (_ : 0 ≤ n ∧ n ≤ 1099511627776) : 0 ≤ wordsOf n ∧ wordsOf n ≤ 1099511627776 := by unfold wordsOf; split <;> omega
theorem words_next (n : Int) (h : 0 ≤ n) : wordsOf (n + 32) = wordsOf n + 1 := by unfold wordsOf; split <;> split <;> omega
theorem share_rises (n : Int) (h : 0 ≤ n) : shareOf n ≤ shareOf (n + 1) := by unfold shareOf; split <;> split <;> omega
theorem share_le (n : Int) (h : 0 ≤ n) : shareOf n ≤ n := by unfold shareOf; split <;> omega
theorem share_nn (n : Int) (_ : 0 ≤ n) : 0 ≤ shareOf n := by unfold shareOf; split <;> omega
theorem share_rest (n : Int) (h : 0 ≤ n) : n - shareOf n = n / 64 := by unfold shareOf; split <;> omega

/-- What each operation of the region writes. -/
def S11 (mk : Bool) (data : List UInt8) : Nat → Value → World → Prop
  | 0, v, w => ∃ cs, v = .agg cs ∧ TxOk w cs (!mk) data
  | 1, v, _ => v = .int .i64 (txGas (!mk) data)
  | 2, v, w => ∃ cs, v = .agg cs ∧ TxOk w cs mk data
  | 3, v, _ => v = .int .i64 (txGas mk data)
  | 4, v, _ => v = .int .i64 (turnOf mk)
  | _, v, _ => v = .int .i64 (turnOf mk)
theorem S11_stays {mk : Bool} {data : List UInt8} : ∀ i v (wa wb : World), Below wa.heap.size wa wb → S11 mk data i v wa → S11 mk data i v wb
  | 0, _, _, _, hb, h => let ⟨cs, e, h⟩ := h; ⟨cs, e, h.ext hb⟩
  | 1, _, _, _, _, h => h
  | 2, _, _, _, hb, h => let ⟨cs, e, h⟩ := h; ⟨cs, e, h.ext hb⟩
  | 3, _, _, _, _, h => h
  | 4, _, _, _, _, h => h
  | _ + 5, _, _, _, _, h => h

/-- What each operation of the region writes. -/
def S15 (mk : Bool) (data : List UInt8) (x : UInt8) (n more : Int) : Nat → Value → World → Prop
  | 0, v, w => ∃ cs, v = .agg cs ∧ TxOk w cs mk (data ++ [x])
  | 1, v, _ => v = .int .i64 (txGas mk (data ++ [x]))
  | 2, v, w => ∃ cs, v = .agg cs ∧ TxOk w cs mk data
  | 3, v, _ => v = .int .i64 (txGas mk data)
  | 4, v, _ => v = .int .i64 more
  | 5, v, _ => v = .int .i64 (txGas mk data + more)
  | 6, v, _ => v = .bool true
  | 7, v, _ => v = .bool true
  | 8, v, _ => v = .int .i64 (turnOf mk)
  | 9, v, _ => v = .int .i64 (turnOf mk)
  | 10, v, _ => v = .bool true
  | 11, v, _ => v = .bool true
  | 12, v, _ => v = .bool true
  | 13, v, _ => v = .int .i64 n
  | 14, v, _ => v = .int .i64 (n + 32)
  | 15, v, _ => v = .int .i64 (wordsOf (n + 32))
  | 16, v, _ => v = .int .i64 n
  | 17, v, _ => v = .int .i64 (wordsOf n)
  | 18, v, _ => v = .int .i64 (wordsOf n + 1)
  | 19, v, _ => v = .bool true
  | 20, v, _ => v = .bool true
  | 21, v, _ => v = .bool true
  | 22, v, _ => v = .int .i64 n
  | 23, v, _ => v = .int .i64 (n + 1)
  | 24, v, _ => v = .int .i64 (shareOf (n + 1))
  | 25, v, _ => v = .int .i64 n
  | 26, v, _ => v = .int .i64 (shareOf n)
  | 27, v, _ => v = .bool true
  | 28, v, _ => v = .bool true
  | 29, v, _ => v = .bool true
  | 30, v, _ => v = .int .i64 n
  | 31, v, _ => v = .int .i64 (shareOf n)
  | 32, v, _ => v = .int .i64 n
  | 33, v, _ => v = .bool true
  | 34, v, _ => v = .bool true
  | 35, v, _ => v = .bool true
  | 36, v, _ => v = .int .i64 n
  | 37, v, _ => v = .int .i64 n
  | 38, v, _ => v = .int .i64 (shareOf n)
  | 39, v, _ => v = .int .i64 (n - shareOf n)
  | 40, v, _ => v = .int .i64 n
  | 41, v, _ => v = .int .i64 (n / 64)
  | 42, v, _ => v = .bool true
  | 43, v, _ => v = .bool true
  | _, v, _ => v = .bool true
theorem S15_stays {mk : Bool} {data : List UInt8} {x : UInt8} {n more : Int} : ∀ i v (wa wb : World), Below wa.heap.size wa wb → S15 mk data x n more i v wa → S15 mk data x n more i v wb
  | 0, _, _, _, hb, h => let ⟨cs, e, h⟩ := h; ⟨cs, e, h.ext hb⟩
  | 1, _, _, _, _, h => h
  | 2, _, _, _, hb, h => let ⟨cs, e, h⟩ := h; ⟨cs, e, h.ext hb⟩
  | 3, _, _, _, _, h => h
  | 4, _, _, _, _, h => h
  | 5, _, _, _, _, h => h
  | 6, _, _, _, _, h => h
  | 7, _, _, _, _, h => h
  | 8, _, _, _, _, h => h
  | 9, _, _, _, _, h => h
  | 10, _, _, _, _, h => h
  | 11, _, _, _, _, h => h
  | 12, _, _, _, _, h => h
  | 13, _, _, _, _, h => h
  | 14, _, _, _, _, h => h
  | 15, _, _, _, _, h => h
  | 16, _, _, _, _, h => h
  | 17, _, _, _, _, h => h
  | 18, _, _, _, _, h => h
  | 19, _, _, _, _, h => h
  | 20, _, _, _, _, h => h
  | 21, _, _, _, _, h => h
  | 22, _, _, _, _, h => h
  | 23, _, _, _, _, h => h
  | 24, _, _, _, _, h => h
  | 25, _, _, _, _, h => h
  | 26, _, _, _, _, h => h
  | 27, _, _, _, _, h => h
  | 28, _, _, _, _, h => h
  | 29, _, _, _, _, h => h
  | 30, _, _, _, _, h => h
  | 31, _, _, _, _, h => h
  | 32, _, _, _, _, h => h
  | 33, _, _, _, _, h => h
  | 34, _, _, _, _, h => h
  | 35, _, _, _, _, h => h
  | 36, _, _, _, _, h => h
  | 37, _, _, _, _, h => h
  | 38, _, _, _, _, h => h
  | 39, _, _, _, _, h => h
  | 40, _, _, _, _, h => h
  | 41, _, _, _, _, h => h
  | 42, _, _, _, _, h => h
  | 43, _, _, _, _, h => h
  | _ + 44, _, _, _, _, h => h

theorem tx_make {w : World} {cs : Array Value} {mk b : Bool} {data : List UInt8} (h : TxOk w cs mk data) : TxOk w (cs.setIfInBounds 43 (.bool b)) b data := by
  obtain ⟨h1, h2, A, n, c, h3, h4⟩ := h
  exact ⟨by simpa using h1, by simp [h1], A, n, c, by rw [Array.getElem?_setIfInBounds_ne (by omega)]; exact h3, h4⟩
theorem tx_data {w : World} {cs : Array Value} {mk : Bool} {data data' : List UInt8} {v : Value} (h : TxOk w cs mk data) (hv : Bytes w v data') : TxOk w (cs.setIfInBounds 76 v) mk data' := by
  obtain ⟨h1, h2, A, n, c, h3, h4⟩ := h
  have hv' := hv
  obtain ⟨A', n', c', rfl, _⟩ := hv
  exact ⟨by simpa using h1, by rw [Array.getElem?_setIfInBounds_ne (by omega)]; exact h2, A', n', c', by simp [h1], hv'⟩
theorem own_ne {v4 v5 : Value} {a b g : Nat} (h4 : v4.ownBlock = (Value.slice none 0 0).ownBlock ∨ v4.ownBlock = some a) (h5 : v5.ownBlock = v4.ownBlock ∨ v5.ownBlock = some b) (h : g < a ∧ g < b) : v5.ownBlock ≠ some g := by
  rcases h5 with e | e <;> rw [e]
  · rcases h4 with e | e <;> rw [e] <;> simp [Value.ownBlock]
    omega
  · simp; omega

set_option maxRecDepth 100000 in
set_option maxHeartbeats 4000000 in
theorem region15 (a : Act) (w : World) (Q : Exit → Act → World → Prop) (cs cu : Array Value) (gt gu : Nat) (mk : Bool) (data : List UInt8) (x : UInt8) (n more : Int) (hlen : data.length ≤ 2000) (hn1 : 0 ≤ n) (hn2 : n ≤ 1099511627776)
    (hmb : 4 ≤ more ∧ more ≤ 16) (HM : Hid (more = if x = 0 then 4 else 16)) (hblk : Blk w gt 28 cs) (hu : Blk w gu 28 cu) (htok : TxOk w cs mk data) (huok : TxOk w cu mk (data ++ [x]))
    (hsz : a.tmps.size = 97) (hdef : a.defers = []) (sb8 : a.tmps[8]? = some (.pointer (some ⟨gu, 0, none⟩))) (sb3 : a.tmps[3]? = some (.pointer (some ⟨gt, 0, none⟩))) (sb9 : a.tmps[9]? = some (.int .i64 more)) (sb11 : a.tmps[11]? = some (.int .i64 (turnOf mk))) (sb12 : a.tmps[12]? = some (.int .i64 (turnOf mk))) (sb1 : a.tmps[1]? = some (.int .i64 n))
    (hQ : ∀ a' w', Below w.heap.size w w' → a'.defers = [] → a'.tmps[6]? = some (.bool true) → Q .normal a' w') : Code.wp Try.prog (regionOf Try.f3 15) Q a w := by
  have htx := txTy
  have hcs := htok.1
  have husz := huok.1
  conv => arg 2; whnf
  refine wp_region_loose (by kernel_rfl) (by kernel_rfl) ?_ hdef (fun w w' => Below w.heap.size w w') (fun w => Below.refl _ _) (fun x y z h1 h2 => below_step h1 h2) (S15 mk data x n more) S15_stays ?_ ?_
  · simp only [hsz]; kernel_rfl
  · replace hblk := hblk.drew
    replace hu := hu.drew
    replace htok := htok.ext (Below.refl w.heap.size w).drew
    replace huok := huok.ext (Below.refl w.heap.size w).drew
    refine ⟨?_, ?_, ?_, ?_, ?_, ?_, ?_, ?_, ?_, ?_, ?_, ?_, ?_, ?_, ?_, ?_, ?_, ?_, ?_, ?_, ?_, ?_, ?_, ?_, ?_, ?_, ?_, ?_, ?_, ?_, ?_, ?_, ?_, ?_, ?_, ?_, ?_, ?_, ?_, ?_, ?_, ?_, ?_, ?_, ?_, trivial⟩
    · intro V wx b hb hd hs hdef hsz
      have s8 : b.tmps[8]? = some (.pointer (some ⟨gu, 0, none⟩)) := hs.1.trans sb8
      clear hs
      refine ⟨?_⟩
      refine wpList_load_blk rfl 28 (.tmp 8) rfl (hu.ext hb) (by rw [husz]; exact htx) (by simp [Act.eval, s8]) ?_
      refine wpList_nil ?_
      exact op_put hdef hsz (Below.refl _ _) ⟨_, rfl, huok.ext hb⟩
    · intro V wx b hb hd hs hdef hsz
      simp only [DepFacts, S15, Region.binds, forall_const, and_true] at hd
      have d0 := hd
      clear hd
      have s53 : b.tmps[53]? = some (V 0) := hs.1
      obtain ⟨cs0, e0, ht0⟩ := d0
      clear hs
      refine ⟨?_⟩
      go_wp2_with fail
      refine (Intrinsic_tx cs0 mk (data ++ [x]) _ ht0 (by simp; omega)).mono ?_
      rintro e w2 ⟨rfl, hb2⟩
      go_wp2
      exact op_post hsz hb2 rfl
    · intro V wx b hb hd hs hdef hsz
      have s3 : b.tmps[3]? = some (.pointer (some ⟨gt, 0, none⟩)) := hs.1.trans sb3
      clear hs
      refine ⟨?_⟩
      refine wpList_load_blk rfl 28 (.tmp 3) rfl (hblk.ext hb) (by rw [hcs]; exact htx) (by simp [Act.eval, s3]) ?_
      refine wpList_nil ?_
      exact op_put hdef hsz (Below.refl _ _) ⟨_, rfl, htok.ext hb⟩
    · intro V wx b hb hd hs hdef hsz
      simp only [DepFacts, S15, Region.binds, forall_const, and_true] at hd
      have d2 := hd.1
      clear hd
      have s55 : b.tmps[55]? = some (V 2) := hs.1
      obtain ⟨cs0, e0, ht0⟩ := d2
      clear hs
      refine ⟨?_⟩
      go_wp2_with fail
      refine (Intrinsic_tx cs0 mk data _ ht0 (by omega)).mono ?_
      rintro e w2 ⟨rfl, hb2⟩
      go_wp2
      exact op_post hsz hb2 rfl
    · intro V wx b hb hd hs hdef hsz
      have s9 : b.tmps[9]? = some (.int .i64 more) := hs.1.trans sb9
      clear hs
      refine ⟨?_⟩
      go_wp2
      exact op_post hsz (Below.refl _ _) rfl
    · intro V wx b hb hd hs hdef hsz
      simp only [DepFacts, S15, Region.binds, forall_const, and_true] at hd
      have d3 := hd.1
      have d4 := hd.2
      clear hd
      have s56 : b.tmps[56]? = some (V 3) := hs.1
      have s57 : b.tmps[57]? = some (V 4) := hs.2.1
      clear hs
      refine ⟨?_⟩
      have hb1 := base_bd mk data hlen
      go_wp2
      exact op_post hsz (Below.refl _ _) rfl
    · intro V wx b hb hd hs hdef hsz
      simp only [DepFacts, S15, Region.binds, forall_const, and_true] at hd
      have d1 := hd.1
      have d5 := hd.2
      clear hd
      have s54 : b.tmps[54]? = some (V 1) := hs.1
      have s58 : b.tmps[58]? = some (V 5) := hs.2.1
      clear hs
      refine ⟨?_⟩
      have E := more_eq mk data x hlen more HM.out
      go_wp2
      exact op_post hsz (Below.refl _ _) (by simp [S15])
    · intro V wx b hb hd hs hdef hsz
      simp only [DepFacts, S15, Region.binds, forall_const, and_true] at hd
      have d6 := hd.1
      clear hd
      have s59 : b.tmps[59]? = some (V 6) := hs.1
      clear hs
      refine ⟨?_⟩
      go_wp2
      exact op_post hsz (Below.refl _ _) rfl
    · intro V wx b hb hd hs hdef hsz
      simp only [DepFacts, S15, Region.binds, forall_const, and_true] at hd
      have d7 := hd
      clear hd
      have s11 : b.tmps[11]? = some (.int .i64 (turnOf mk)) := hs.1.trans sb11
      have s60 : b.tmps[60]? = some (V 7) := hs.2.1
      clear hs
      refine ⟨?_⟩
      go_wp2
      exact op_post hsz (Below.refl _ _) rfl
    · intro V wx b hb hd hs hdef hsz
      simp only [DepFacts, S15, Region.binds, forall_const, and_true] at hd
      have d7 := hd
      clear hd
      have s12 : b.tmps[12]? = some (.int .i64 (turnOf mk)) := hs.1.trans sb12
      have s60 : b.tmps[60]? = some (V 7) := hs.2.1
      clear hs
      refine ⟨?_⟩
      go_wp2
      exact op_post hsz (Below.refl _ _) rfl
    · intro V wx b hb hd hs hdef hsz
      simp only [DepFacts, S15, Region.binds, forall_const, and_true] at hd
      have d8 := hd.1
      have d9 := hd.2.1
      have d7 := hd.2.2
      clear hd
      have s61 : b.tmps[61]? = some (V 8) := hs.1
      have s62 : b.tmps[62]? = some (V 9) := hs.2.1
      have s60 : b.tmps[60]? = some (V 7) := hs.2.2.1
      clear hs
      refine ⟨?_⟩
      go_wp2
      exact op_post hsz (Below.refl _ _) rfl
    · intro V wx b hb hd hs hdef hsz
      simp only [DepFacts, S15, Region.binds, forall_const, and_true] at hd
      have d7 := hd.1
      have d10 := hd.2
      clear hd
      have s60 : b.tmps[60]? = some (V 7) := hs.1
      have s63 : b.tmps[63]? = some (V 10) := hs.2.1
      clear hs
      refine ⟨?_⟩
      go_wp2
      exact op_post hsz (Below.refl _ _) rfl
    · intro V wx b hb hd hs hdef hsz
      simp only [DepFacts, S15, Region.binds, forall_const, and_true] at hd
      have d11 := hd.1
      clear hd
      have s64 : b.tmps[64]? = some (V 11) := hs.1
      clear hs
      refine ⟨?_⟩
      go_wp2
      exact op_post hsz (Below.refl _ _) rfl
    · intro V wx b hb hd hs hdef hsz
      simp only [DepFacts, S15, Region.binds, forall_const, and_true] at hd
      have d12 := hd
      clear hd
      have s1 : b.tmps[1]? = some (.int .i64 n) := hs.1.trans sb1
      have s65 : b.tmps[65]? = some (V 12) := hs.2.1
      clear hs
      refine ⟨?_⟩
      go_wp2
      exact op_post hsz (Below.refl _ _) rfl
    · intro V wx b hb hd hs hdef hsz
      simp only [DepFacts, S15, Region.binds, forall_const, and_true] at hd
      have d13 := hd.1
      have d12 := hd.2
      clear hd
      have s66 : b.tmps[66]? = some (V 13) := hs.1
      have s65 : b.tmps[65]? = some (V 12) := hs.2.1
      clear hs
      refine ⟨?_⟩
      go_wp2
      exact op_post hsz (Below.refl _ _) rfl
    · intro V wx b hb hd hs hdef hsz
      simp only [DepFacts, S15, Region.binds, forall_const, and_true] at hd
      have d14 := hd.1
      have d12 := hd.2.1
      clear hd
      have s67 : b.tmps[67]? = some (V 14) := hs.1
      have s65 : b.tmps[65]? = some (V 12) := hs.2.1
      clear hs
      refine ⟨?_⟩
      go_wp2_with (go_at_call 12; refine (Words_any (n + 32) _ (by omega) (by omega)).mono ?_; rintro e w2 ⟨rfl, rfl⟩)
      exact op_post hsz (Below.refl _ _) rfl
    · intro V wx b hb hd hs hdef hsz
      simp only [DepFacts, S15, Region.binds, forall_const, and_true] at hd
      have d12 := hd
      clear hd
      have s1 : b.tmps[1]? = some (.int .i64 n) := hs.1.trans sb1
      have s65 : b.tmps[65]? = some (V 12) := hs.2.1
      clear hs
      refine ⟨?_⟩
      go_wp2
      exact op_post hsz (Below.refl _ _) rfl
    · intro V wx b hb hd hs hdef hsz
      simp only [DepFacts, S15, Region.binds, forall_const, and_true] at hd
      have d16 := hd.1
      have d12 := hd.2.2
      clear hd
      have s69 : b.tmps[69]? = some (V 16) := hs.1
      have s65 : b.tmps[65]? = some (V 12) := hs.2.1
      clear hs
      refine ⟨?_⟩
      go_wp2_with (go_at_call 12; refine (Words_any n _ (by omega) (by omega)).mono ?_; rintro e w2 ⟨rfl, rfl⟩)
      exact op_post hsz (Below.refl _ _) rfl
    · intro V wx b hb hd hs hdef hsz
      simp only [DepFacts, S15, Region.binds, forall_const, and_true] at hd
      have d17 := hd.1
      have d12 := hd.2
      clear hd
      have s70 : b.tmps[70]? = some (V 17) := hs.1
      have s65 : b.tmps[65]? = some (V 12) := hs.2.1
      clear hs
      refine ⟨?_⟩
      have hb1 := words_bd n (by omega)
      go_wp2
      exact op_post hsz (Below.refl _ _) rfl
    · intro V wx b hb hd hs hdef hsz
      simp only [DepFacts, S15, Region.binds, forall_const, and_true] at hd
      have d15 := hd.1
      have d18 := hd.2.1
      have d12 := hd.2.2
      clear hd
      have s68 : b.tmps[68]? = some (V 15) := hs.1
      have s71 : b.tmps[71]? = some (V 18) := hs.2.1
      have s65 : b.tmps[65]? = some (V 12) := hs.2.2.1
      clear hs
      refine ⟨?_⟩
      have E : wordsOf (n + 32) = wordsOf n + 1 := words_next n (by omega)
      go_wp2
      exact op_post hsz (Below.refl _ _) (by simp [S15])
    · intro V wx b hb hd hs hdef hsz
      simp only [DepFacts, S15, Region.binds, forall_const, and_true] at hd
      have d12 := hd.1
      have d19 := hd.2
      clear hd
      have s65 : b.tmps[65]? = some (V 12) := hs.1
      have s72 : b.tmps[72]? = some (V 19) := hs.2.1
      clear hs
      refine ⟨?_⟩
      go_wp2
      exact op_post hsz (Below.refl _ _) rfl
    · intro V wx b hb hd hs hdef hsz
      simp only [DepFacts, S15, Region.binds, forall_const, and_true] at hd
      have d20 := hd.1
      clear hd
      have s73 : b.tmps[73]? = some (V 20) := hs.1
      clear hs
      refine ⟨?_⟩
      go_wp2
      exact op_post hsz (Below.refl _ _) rfl
    · intro V wx b hb hd hs hdef hsz
      simp only [DepFacts, S15, Region.binds, forall_const, and_true] at hd
      have d21 := hd
      clear hd
      have s1 : b.tmps[1]? = some (.int .i64 n) := hs.1.trans sb1
      have s74 : b.tmps[74]? = some (V 21) := hs.2.1
      clear hs
      refine ⟨?_⟩
      go_wp2
      exact op_post hsz (Below.refl _ _) rfl
    · intro V wx b hb hd hs hdef hsz
      simp only [DepFacts, S15, Region.binds, forall_const, and_true] at hd
      have d22 := hd.1
      have d21 := hd.2
      clear hd
      have s75 : b.tmps[75]? = some (V 22) := hs.1
      have s74 : b.tmps[74]? = some (V 21) := hs.2.1
      clear hs
      refine ⟨?_⟩
      go_wp2
      exact op_post hsz (Below.refl _ _) rfl
    · intro V wx b hb hd hs hdef hsz
      simp only [DepFacts, S15, Region.binds, forall_const, and_true] at hd
      have d23 := hd.1
      have d21 := hd.2.1
      clear hd
      have s76 : b.tmps[76]? = some (V 23) := hs.1
      have s74 : b.tmps[74]? = some (V 21) := hs.2.1
      clear hs
      refine ⟨?_⟩
      go_wp2_with (go_at_call 13; refine (Share_any (n + 1) _ (by omega) (by omega)).mono ?_; rintro e w2 ⟨rfl, rfl⟩)
      exact op_post hsz (Below.refl _ _) rfl
    · intro V wx b hb hd hs hdef hsz
      simp only [DepFacts, S15, Region.binds, forall_const, and_true] at hd
      have d21 := hd
      clear hd
      have s1 : b.tmps[1]? = some (.int .i64 n) := hs.1.trans sb1
      have s74 : b.tmps[74]? = some (V 21) := hs.2.1
      clear hs
      refine ⟨?_⟩
      go_wp2
      exact op_post hsz (Below.refl _ _) rfl
    · intro V wx b hb hd hs hdef hsz
      simp only [DepFacts, S15, Region.binds, forall_const, and_true] at hd
      have d25 := hd.1
      have d21 := hd.2.2
      clear hd
      have s78 : b.tmps[78]? = some (V 25) := hs.1
      have s74 : b.tmps[74]? = some (V 21) := hs.2.1
      clear hs
      refine ⟨?_⟩
      go_wp2_with (go_at_call 13; refine (Share_any n _ (by omega) (by omega)).mono ?_; rintro e w2 ⟨rfl, rfl⟩)
      exact op_post hsz (Below.refl _ _) rfl
    · intro V wx b hb hd hs hdef hsz
      simp only [DepFacts, S15, Region.binds, forall_const, and_true] at hd
      have d24 := hd.1
      have d26 := hd.2.1
      have d21 := hd.2.2
      clear hd
      have s77 : b.tmps[77]? = some (V 24) := hs.1
      have s79 : b.tmps[79]? = some (V 26) := hs.2.1
      have s74 : b.tmps[74]? = some (V 21) := hs.2.2.1
      clear hs
      refine ⟨?_⟩
      have E : shareOf n ≤ shareOf (n + 1) := share_rises n (by omega)
      go_wp2
      exact op_post hsz (Below.refl _ _) rfl
    · intro V wx b hb hd hs hdef hsz
      simp only [DepFacts, S15, Region.binds, forall_const, and_true] at hd
      have d21 := hd.1
      have d27 := hd.2
      clear hd
      have s74 : b.tmps[74]? = some (V 21) := hs.1
      have s80 : b.tmps[80]? = some (V 27) := hs.2.1
      clear hs
      refine ⟨?_⟩
      go_wp2
      exact op_post hsz (Below.refl _ _) rfl
    · intro V wx b hb hd hs hdef hsz
      simp only [DepFacts, S15, Region.binds, forall_const, and_true] at hd
      have d28 := hd.1
      clear hd
      have s81 : b.tmps[81]? = some (V 28) := hs.1
      clear hs
      refine ⟨?_⟩
      go_wp2
      exact op_post hsz (Below.refl _ _) rfl
    · intro V wx b hb hd hs hdef hsz
      simp only [DepFacts, S15, Region.binds, forall_const, and_true] at hd
      have d29 := hd
      clear hd
      have s1 : b.tmps[1]? = some (.int .i64 n) := hs.1.trans sb1
      have s82 : b.tmps[82]? = some (V 29) := hs.2.1
      clear hs
      refine ⟨?_⟩
      go_wp2
      exact op_post hsz (Below.refl _ _) rfl
    · intro V wx b hb hd hs hdef hsz
      simp only [DepFacts, S15, Region.binds, forall_const, and_true] at hd
      have d30 := hd.1
      have d29 := hd.2.1
      clear hd
      have s83 : b.tmps[83]? = some (V 30) := hs.1
      have s82 : b.tmps[82]? = some (V 29) := hs.2.1
      clear hs
      refine ⟨?_⟩
      go_wp2_with (go_at_call 13; refine (Share_any n _ (by omega) (by omega)).mono ?_; rintro e w2 ⟨rfl, rfl⟩)
      exact op_post hsz (Below.refl _ _) rfl
    · intro V wx b hb hd hs hdef hsz
      simp only [DepFacts, S15, Region.binds, forall_const, and_true] at hd
      have d29 := hd
      clear hd
      have s1 : b.tmps[1]? = some (.int .i64 n) := hs.1.trans sb1
      have s82 : b.tmps[82]? = some (V 29) := hs.2.1
      clear hs
      refine ⟨?_⟩
      go_wp2
      exact op_post hsz (Below.refl _ _) rfl
    · intro V wx b hb hd hs hdef hsz
      simp only [DepFacts, S15, Region.binds, forall_const, and_true] at hd
      have d31 := hd.1
      have d32 := hd.2.1
      have d29 := hd.2.2
      clear hd
      have s84 : b.tmps[84]? = some (V 31) := hs.1
      have s85 : b.tmps[85]? = some (V 32) := hs.2.1
      have s82 : b.tmps[82]? = some (V 29) := hs.2.2.1
      clear hs
      refine ⟨?_⟩
      have E : shareOf n ≤ n := share_le n (by omega)
      go_wp2
      exact op_post hsz (Below.refl _ _) rfl
    · intro V wx b hb hd hs hdef hsz
      simp only [DepFacts, S15, Region.binds, forall_const, and_true] at hd
      have d29 := hd.1
      have d33 := hd.2
      clear hd
      have s82 : b.tmps[82]? = some (V 29) := hs.1
      have s86 : b.tmps[86]? = some (V 33) := hs.2.1
      clear hs
      refine ⟨?_⟩
      go_wp2
      exact op_post hsz (Below.refl _ _) rfl
    · intro V wx b hb hd hs hdef hsz
      simp only [DepFacts, S15, Region.binds, forall_const, and_true] at hd
      have d34 := hd.1
      clear hd
      have s87 : b.tmps[87]? = some (V 34) := hs.1
      clear hs
      refine ⟨?_⟩
      go_wp2
      exact op_post hsz (Below.refl _ _) rfl
    · intro V wx b hb hd hs hdef hsz
      simp only [DepFacts, S15, Region.binds, forall_const, and_true] at hd
      have d35 := hd
      clear hd
      have s1 : b.tmps[1]? = some (.int .i64 n) := hs.1.trans sb1
      have s88 : b.tmps[88]? = some (V 35) := hs.2.1
      clear hs
      refine ⟨?_⟩
      go_wp2
      exact op_post hsz (Below.refl _ _) rfl
    · intro V wx b hb hd hs hdef hsz
      simp only [DepFacts, S15, Region.binds, forall_const, and_true] at hd
      have d35 := hd
      clear hd
      have s1 : b.tmps[1]? = some (.int .i64 n) := hs.1.trans sb1
      have s88 : b.tmps[88]? = some (V 35) := hs.2.1
      clear hs
      refine ⟨?_⟩
      go_wp2
      exact op_post hsz (Below.refl _ _) rfl
    · intro V wx b hb hd hs hdef hsz
      simp only [DepFacts, S15, Region.binds, forall_const, and_true] at hd
      have d37 := hd.1
      have d35 := hd.2.1
      clear hd
      have s90 : b.tmps[90]? = some (V 37) := hs.1
      have s88 : b.tmps[88]? = some (V 35) := hs.2.1
      clear hs
      refine ⟨?_⟩
      go_wp2_with (go_at_call 13; refine (Share_any n _ (by omega) (by omega)).mono ?_; rintro e w2 ⟨rfl, rfl⟩)
      exact op_post hsz (Below.refl _ _) rfl
    · intro V wx b hb hd hs hdef hsz
      simp only [DepFacts, S15, Region.binds, forall_const, and_true] at hd
      have d36 := hd.1
      have d38 := hd.2.1
      have d35 := hd.2.2
      clear hd
      have s89 : b.tmps[89]? = some (V 36) := hs.1
      have s91 : b.tmps[91]? = some (V 38) := hs.2.1
      have s88 : b.tmps[88]? = some (V 35) := hs.2.2.1
      clear hs
      refine ⟨?_⟩
      have E : shareOf n ≤ n := share_le n (by omega)
      have E2 : 0 ≤ shareOf n := share_nn n (by omega)
      go_wp2
      exact op_post hsz (Below.refl _ _) rfl
    · intro V wx b hb hd hs hdef hsz
      simp only [DepFacts, S15, Region.binds, forall_const, and_true] at hd
      have d35 := hd
      clear hd
      have s1 : b.tmps[1]? = some (.int .i64 n) := hs.1.trans sb1
      have s88 : b.tmps[88]? = some (V 35) := hs.2.1
      clear hs
      refine ⟨?_⟩
      go_wp2
      exact op_post hsz (Below.refl _ _) rfl
    · intro V wx b hb hd hs hdef hsz
      simp only [DepFacts, S15, Region.binds, forall_const, and_true] at hd
      have d40 := hd.1
      have d35 := hd.2
      clear hd
      have s93 : b.tmps[93]? = some (V 40) := hs.1
      have s88 : b.tmps[88]? = some (V 35) := hs.2.1
      clear hs
      refine ⟨?_⟩
      go_wp2
      exact op_post hsz (Below.refl _ _) rfl
    · intro V wx b hb hd hs hdef hsz
      simp only [DepFacts, S15, Region.binds, forall_const, and_true] at hd
      have d39 := hd.1
      have d41 := hd.2.1
      have d35 := hd.2.2
      clear hd
      have s92 : b.tmps[92]? = some (V 39) := hs.1
      have s94 : b.tmps[94]? = some (V 41) := hs.2.1
      have s88 : b.tmps[88]? = some (V 35) := hs.2.2.1
      clear hs
      refine ⟨?_⟩
      have E : n - shareOf n = n / 64 := share_rest n (by omega)
      go_wp2
      exact op_post hsz (Below.refl _ _) (by simp [S15])
    · intro V wx b hb hd hs hdef hsz
      simp only [DepFacts, S15, Region.binds, forall_const, and_true] at hd
      have d35 := hd.1
      have d42 := hd.2
      clear hd
      have s88 : b.tmps[88]? = some (V 35) := hs.1
      have s95 : b.tmps[95]? = some (V 42) := hs.2.1
      clear hs
      refine ⟨?_⟩
      go_wp2
      exact op_post hsz (Below.refl _ _) rfl
    · intro V wx b hb hd hs hdef hsz
      simp only [DepFacts, S15, Region.binds, forall_const, and_true] at hd
      have d43 := hd.1
      clear hd
      have s96 : b.tmps[96]? = some (V 43) := hs.1
      clear hs
      refine ⟨?_⟩
      go_wp2
      exact op_post hsz (Below.refl _ _) rfl
  · intro V w' hb hs
    have h44 := hs.2.2.2.2.2.2.2.2.2.2.2.2.2.2.2.2.2.2.2.2.2.2.2.2.2.2.2.2.2.2.2.2.2.2.2.2.2.2.2.2.2.2.2.2.1
    have hk := @fill_keep
    refine hQ _ w' (below_step (Below.refl w.heap.size w).drew hb) (by rw [fill_keep.2]; exact hdef) ?_
    refine (fill_slot (t := 6) (V := V) (a := a) (by decide +kernel) (by show (6 : Nat) < a.tmps.size; rw [hsz]; decide)).trans ?_
    show some (V 44) = _
    rw [h44]
set_option maxRecDepth 100000 in
set_option maxHeartbeats 4000000 in
theorem walk (cs : Array Value) (mk : Bool) (data : List UInt8) (n : Int) (x : UInt8) (w : World) (h : TxOk w cs mk data) (h1c : OneCells cs)
    (hn1 : -9223372036854775808 ≤ n) (hn2 : n ≤ 9223372036854775807) :
    Calls Try.prog 3 #[.agg cs, .int .i64 n, .int .u8 (x.toNat : Int)] w fun e w' => e = .returned (.bool true) ∧ Below w.heap.size w w' := by
  have h0 := h
  obtain ⟨hcs, hmk, A, m, c, hsl, _, _, _, e, g1, g2, g3, g4⟩ := h
  injection e with e1 e2 e3
  subst e1
  subst e2
  subst e3
  unfold maxLen at g3
  have hblk : Blk (w.alloc (.cells cs 28)) w.heap.size 28 cs := Blk.new _ _ _
  have hB0 : Below w.heap.size w (w.alloc (.cells cs 28)) := (Below.refl _ _).alloc (Nat.le_refl _) _
  have hblk0 := hblk
  have hlt0 : w.heap.size < (w.alloc (.cells cs 28)).heap.size := by simp
  by_cases c1 : 2000 < m
  · have d1 : decide ((2000 : Int) < m) = true := by simp; omega
    go_enter Try.func3, Try.ntmps3
    go_wp2_with fail
    refine (alive14 _).mono ?_
    rintro e w1 ⟨rfl, rfl⟩
    have hc76 := hblk.cellv hsl
    go_wp2
    go_ret
    exact ⟨rfl, hB0⟩
  have d1 : decide ((2000 : Int) < m) = false := by simp; omega
  by_cases c2 : n < 0
  · have d2 : decide (n < 0) = true := by simp; omega
    go_enter Try.func3, Try.ntmps3
    go_wp2_with fail
    refine (alive14 _).mono ?_
    rintro e w1 ⟨rfl, rfl⟩
    have hc76 := hblk.cellv hsl
    go_wp2
    go_ret
    exact ⟨rfl, hB0⟩
  have d2 : decide (n < 0) = false := by simp; omega
  by_cases c3 : 1099511627776 < n
  · have d3 : decide (1099511627776 < n) = true := by simp; omega
    go_enter Try.func3, Try.ntmps3
    go_wp2_with fail
    refine (alive14 _).mono ?_
    rintro e w1 ⟨rfl, rfl⟩
    have hc76 := hblk.cellv hsl
    go_wp2
    go_ret
    exact ⟨rfl, hB0⟩
  have d3 : decide (1099511627776 < n) = false := by simp; omega
  have htx := txTy
  have hby := bytesTy
  obtain ⟨more, hmore⟩ : ∃ more : Int, more = if x = 0 then 4 else 16 := ⟨_, rfl⟩
  have hmbd : 4 ≤ more ∧ more ≤ 16 := by subst hmore; split <;> omega
  have HM := Lib.hid hmore
  clear hmore
  have hx01 : (((x.toNat : Int) == 0) = true ∧ more = 4) ∨ (((x.toNat : Int) == 0) = false ∧ more = 16) := by
    have hm := HM.out
    by_cases hx : x = 0
    · subst hx; exact .inl ⟨rfl, by simpa using hm⟩
    · refine .inr ⟨?_, by rw [hm, if_neg hx]⟩
      rw [beq_eq_false_iff_ne]
      intro e
      exact hx (UInt8.toNat_inj.1 (by show x.toNat = 0; omega))
  rcases hx01 with ⟨hx0, hm0⟩ | ⟨hx0, hm0⟩
  all_goals
    have HM0 := Lib.hid hm0
    clear hm0
    go_enter Try.func3, Try.ntmps3
    go_wp2_with fail
    refine (alive14 _).mono ?_
    rintro e w1 ⟨rfl, rfl⟩
    have hc76 := hblk.cellv hsl
    have hc43 := hblk.cellv hmk
    generalize (w.alloc (.cells cs 28)) = w1 at *
    have tok1 : True := trivial
    have tok2 : True := trivial
    have tok3 : True := trivial
    have tok4 : True := trivial
    have tok5 : True := trivial
    have tok6 : True := trivial
    have tok7 : True := trivial
    have tok8 : True := trivial
    go_wp2_with (first
      | (refine wpList_load_blk rfl 28 (.tmp 3) rfl hblk (by rw [hcs]; exact htx) rfl ?_)
      | (have _t := tok1; refine wpList_alloc_blk rfl 28 rfl zTx_info ?_; clear tok1; intro w2 hu2 hB2 hlt2; replace hblk := hblk.ext hB2; replace hc76 := hblk.cellv hsl; replace hc43 := hblk.cellv hmk; have hB02 := below_step hB0 hB2)
      | (have _t := tok2; refine wpList_store_blk rfl 28 (.tmp 8) (.tmp 31) rfl hu2 (by rw [hcs]; exact htx) (by rw [zTx_size, hcs]) h1c rfl rfl ?_; clear tok2; intro w3 hu3 hg3; replace hblk := hblk.grown hg3 (by simp; omega); replace hc76 := hblk.cellv hsl; replace hc43 := hblk.cellv hmk; have hB03 := hB02.grown hg3 hB02.size (fun k hk => by simp at hk; omega))
      | (at_builtin; have _t := tok3; refine wpList_append_rd _ rfl (.const (.slice none 0 0)) (.tmp 33) _ rfl w.heap.size _ _ 1 1 hby (.slice none 0 0) 0 [] rfl (World.ownsRow_nil _ _ _ _) A m c (bv data) rfl (by rw [bv_length]; omega) (g4.ext hB03) bv_one (by unfold maxLen; omega) (by omega) hB03.size ?_; clear tok3; intro v4 w4 hown4 hg4 hat4; replace hblk := hblk.grown hg4 (by simp [Value.ownBlock]); replace hc76 := hblk.cellv hsl; replace hc43 := hblk.cellv hmk; replace hu3 := hu3.grown hg4 (by simp [Value.ownBlock]); have hB04 := hB03.grown hg4 hB03.size (fun k hk => by simp [Value.ownBlock] at hk))
      | (at_builtin; have _t := tok4; refine wpList_append_rd _ rfl (.tmp 34) (.tmp 36) _ rfl w.heap.size _ _ 1 1 hby v4 (0 + m) ([] ++ bv data) rfl (hown4.alloc _) (some ⟨w4.heap.size, 0, none⟩) 1 1 (bv [x]) rfl rfl (Rd.new _ #[_] _ _) bv_one (by unfold maxLen; omega) (by omega) (by simp; have := hB04.size; omega) ?_; clear tok4; intro v5 w5 hown5 hg5 hat5; have hne1 : some w.heap.size ≠ v4.ownBlock := (by rcases hat4 with e | e <;> rw [e] <;> simp [Value.ownBlock]; have := hg3.size; omega); have hne2 : some w1.heap.size ≠ v4.ownBlock := (by rcases hat4 with e | e <;> rw [e] <;> simp [Value.ownBlock]; have := hg3.size; omega); replace hblk := (hblk.alloc _).grown hg5 hne1; replace hc76 := hblk.cellv hsl; replace hc43 := hblk.cellv hmk; replace hu3 := (hu3.alloc _).grown hg5 hne2; have hB05 := below_own (hB04.alloc hB04.size _) (hown4.alloc _) (Nat.le_refl _) hg5 (by simp; have := hB04.size; omega))
      | (have _t := tok5; refine wpList_store_cell rfl 26 (.tmp 38) (.tmp 37) rfl hu3 (by rw [hcs]; omega) bytes_size (own_one hown5) rfl rfl ?_; clear tok5; intro w6 hu6 hg6; replace hblk := hblk.grown hg6 (by simp; omega); replace hc76 := hblk.cellv hsl; replace hc43 := hblk.cellv hmk; have hB06 := hB05.grown hg6 hB05.size (fun k hk => by simp at hk; omega); have hown6 := hown5.kept hg6 (.inr (own_ne hat4 hat5 (by have := hg3.size; simp; have := hg4.size; omega))))
      | (have _t := tok6; refine wpList_alloc_blk rfl 28 rfl zTx_info ?_; clear tok6; intro w7 hw7 hB7 hlt7; replace hblk := hblk.ext hB7; replace hc76 := hblk.cellv hsl; replace hc43 := hblk.cellv hmk; have hB07 := below_step hB06 hB7; have hu7 := hu6.ext hB7)
      | (have _t := tok7; refine wpList_store_blk rfl 28 (.tmp 10) (.tmp 41) rfl hw7 (by rw [hcs]; exact htx) (by rw [zTx_size, hcs]) h1c rfl rfl ?_; clear tok7; intro w8 hw8 hg8; replace hblk := hblk.grown hg8 (by simp; have := hu6.lt; omega); replace hc76 := hblk.cellv hsl; replace hc43 := hblk.cellv hmk; have hB08 := hB07.grown hg8 hB07.size (fun k hk => by simp at hk; have := hB06.size; omega); have hB68 := hB7.grown hg8 hB7.size (fun k hk => by simp at hk; omega); have hu8 := hu7.grown hg8 (by simp; have := hu6.lt; omega))
      | (have _t := tok8; refine wpList_store_cell rfl 4 (.tmp 45) (.tmp 44) rfl hw8 (by rw [hcs]; omega) bool_size rfl rfl rfl ?_; clear tok8; intro w9 hw9 hg9; replace hblk := hblk.grown hg9 (by simp; have := hu6.lt; omega); have hB09 := hB08.grown hg9 hB08.size (fun k hk => by simp at hk; have := hB06.size; omega); have hB69 := hB68.grown hg9 hB68.size (fun k hk => by simp at hk; omega); have hu9 := hu8.grown hg9 (by simp; have := hu6.lt; omega))
      )
    have htok : TxOk w9 cs mk data := h0.ext hB09
    have hwok : TxOk w9 (cs.setIfInBounds 43 (.bool (!mk))) (!mk) data := tx_make htok
    have hb5 : Bytes w6 v5 (data ++ [x]) := Bytes.own (by rw [bv_append]; exact hown6)
    have huok : TxOk w9 (cs.setIfInBounds 76 v5) mk (data ++ [x]) := tx_data htok (hb5.ext hB69)
    clear hown4 hown5 hg4 hat4 hg5 hat5 hg6 hg8 hg9 hown6 hu2 hB2 hc76 hg3 hc43 g4 hsl h0 hb5 hu6 hu7 hu8 hw7 hw8
    have hwsz := hwok.1
    have hlen : data.length ≤ 2000 := by omega
    replace hw9 : Blk w9 w6.heap.size 28 (cs.setIfInBounds 43 (.bool (!mk))) := hw9
    refine wp_region_loose (by kernel_rfl) (by kernel_rfl) (by kernel_rfl) rfl (fun w w' => Below w.heap.size w w') (fun w => Below.refl _ _) (fun x y z h1 h2 => below_step h1 h2) (S11 mk data) S11_stays ?_ ?_
    · have hw := hw9.drew
      replace hblk := hblk.drew
      replace htok := htok.ext (Below.refl w9.heap.size w9).drew
      replace hwok := hwok.ext (Below.refl w9.heap.size w9).drew
      refine ⟨?_, ?_, ?_, ?_, ?_, ?_, trivial⟩
      · intro V wx b hb hd hs hdef hsz
        have s10 : b.tmps[10]? = some (.pointer (some ⟨w6.heap.size, 0, none⟩)) := hs.1
        clear hs
        refine ⟨?_⟩
        refine wpList_load_blk rfl 28 (.tmp 10) rfl (hw.ext hb) (by rw [hwsz]; exact htx) (by simp [Act.eval, s10]) ?_
        refine wpList_nil ?_
        exact op_put hdef hsz (Below.refl _ _) ⟨_, rfl, hwok.ext hb⟩
      · intro V wx b hb hd hs hdef hsz
        simp only [DepFacts, S11, Region.binds, forall_const, and_true] at hd
        have d0 := hd
        clear hd
        have s46 : b.tmps[46]? = some (V 0) := hs.1
        obtain ⟨cs0, e0, ht0⟩ := d0
        clear hs
        refine ⟨?_⟩
        go_wp2_with fail
        refine (Intrinsic_tx cs0 (!mk) data _ ht0 (by omega)).mono ?_
        rintro e w2 ⟨rfl, hb2⟩
        go_wp2
        exact op_post hsz hb2 rfl
      · intro V wx b hb hd hs hdef hsz
        have s3 : b.tmps[3]? = some (.pointer (some ⟨w.heap.size, 0, none⟩)) := hs.1
        clear hs
        refine ⟨?_⟩
        refine wpList_load_blk rfl 28 (.tmp 3) rfl (hblk.ext hb) (by rw [hcs]; exact htx) (by simp [Act.eval, s3]) ?_
        refine wpList_nil ?_
        exact op_put hdef hsz (Below.refl _ _) ⟨_, rfl, htok.ext hb⟩
      · intro V wx b hb hd hs hdef hsz
        simp only [DepFacts, S11, Region.binds, forall_const, and_true] at hd
        have d2 := hd.1
        clear hd
        have s48 : b.tmps[48]? = some (V 2) := hs.1
        obtain ⟨cs0, e0, ht0⟩ := d2
        clear hs
        refine ⟨?_⟩
        go_wp2_with fail
        refine (Intrinsic_tx cs0 mk data _ ht0 (by omega)).mono ?_
        rintro e w2 ⟨rfl, hb2⟩
        go_wp2
        exact op_post hsz hb2 rfl
      · intro V wx b hb hd hs hdef hsz
        simp only [DepFacts, S11, Region.binds, forall_const, and_true] at hd
        have d1 := hd.1
        have d3 := hd.2
        clear hd
        have s47 : b.tmps[47]? = some (V 1) := hs.1
        have s49 : b.tmps[49]? = some (V 3) := hs.2.1
        clear hs
        refine ⟨?_⟩
        have E := turn_eq mk data
        have hb1 := base_bd mk data hlen
        have hb2 := base_bd (!mk) data hlen
        go_wp2
        exact op_post hsz (Below.refl _ _) (by simp [S11])
      · intro V wx b hb hd hs hdef hsz
        simp only [DepFacts, S11, Region.binds, forall_const, and_true] at hd
        have d4 := hd.1
        clear hd
        have s50 : b.tmps[50]? = some (V 4) := hs.1
        clear hs
        refine ⟨?_⟩
        go_wp2
        exact op_post hsz (Below.refl _ _) (by simp [S11])
    · intro V wy hb hs
      have h5 := hs.2.2.2.2.2.1
      clear hs
      replace h5 : V 5 = .int .i64 (turnOf mk) := h5
      have hB0y := below_step hB09.drew hb
      replace hblk := (hblk.drew).ext hb
      replace hu9 := (hu9.drew).ext hb
      replace hc43' := hblk.cellv hmk
      replace htok := (htok.ext (Below.refl w9.heap.size w9).drew).ext hb
      replace huok := (huok.ext (Below.refl w9.heap.size w9).drew).ext hb
      simp only [fill, h5]
      clear hwok hw9 hwsz h5
      go_wp2
      all_goals
        refine region15 _ _ _ cs (cs.setIfInBounds 76 v5) w.heap.size w1.heap.size mk data x n more hlen c2 c3 hmbd HM hblk hu9 htok huok (by simp) (by simp) ?_ ?_ ?_ ?_ ?_ ?_ ?_
        · simp
        · simp
        · simp [HM0.out]
        · simp
        · simp [turnOf, *]
        · simp
        · intro a' wz hbz hda h6
          go_wp2
          (try simp only [Exit.inBlock, Exit.then])
          refine bodyPost_ret (results_tmp rfl _ _ _) hda ⟨?_, below_step hB0y hbz⟩
          rw [Array.getD_eq_getD_getElem?, h6]; rfl
open Go.ChangeShapes Go.WideShapes Go.ChangeAt

set_option maxRecDepth 100000 in
theorem lifted (os : Os) (started : os.Started) (H : Type) (enc : TypeId × Value → H) :
    ReturnsInHanded {} Try.checked os 3 .any (Rows.gasRisesSpec.pre6 enc Try.prog Try.f3 Rows.gasRisesRow.domain false) (Rows.gasRisesSpec.post enc Try.prog Try.f3 false true false false) := by
  refine law_lift (C := Try.checked) (ts := [28, 3, 5]) (tb := 4) (by kernel_rfl) started (by kernel_rfl) Try.func3
    (ChangeSpec.witness6 (enc := enc) (C := Try.checked) false ⟨#[], #[zTx, .int .i64 0, .int .u8 0], []⟩ 8 (by kernel_rfl) (by kernel_rfl) (by kernel_rfl) (by kernel_rfl))
    (by kernel_rfl) (by kernel_rfl) (by kernel_rfl) (by kernel_rfl) Try.underlying4 rfl (fun ds h => by match ds, h with | [_, _, _], _ => rfl) ?_
  intro W vs hl h
  match vs, hl with
  | [v0, v1, v2], _ =>
    have ht := h 0 _ v0 rfl rfl
    obtain ⟨n, rfl, hn⟩ := arg_int Try.underlying3 (h 1 _ v1 rfl rfl)
    obtain ⟨x, rfl⟩ := arg_byte Try.underlying5 (h 2 _ v2 rfl rfl)
    obtain ⟨cs, mk, data, rfl, hone, htx⟩ := tx_of ht
    have hn := bounds_i64 hn
    exact walk cs mk data n x W htx hone hn.1 hn.2

theorem over : Rows.gasRisesRow.holds Try.pinned (OpenSpec.ofChange Rows.gasRisesSpec) :=
  OpenClaim.holds_of_wide 3 Try.f3 rfl rfl rfl rfl rfl rfl rfl ⟨rfl, rfl, rfl, rfl, rfl⟩ rfl rfl rfl rfl rfl (by kernel_rfl) Try.func3 (by kernel_rfl)
    (of_decide_eq_true (by kernel_rfl)) (by unfold Func.isWrapper; first | (rw [if_pos (by decide +kernel)]; kernel_rfl) | (rw [if_neg (by decide +kernel)]; exact ⟨rfl, rfl⟩))
    (fun os started H enc _ => lifted os started H enc)
end Go.Proofs.Ytpliedimdhilcaa.GasRises
namespace Go.Proofs.Ytpliedimdhilcaa
theorem gasRises_holds : Rows.GasRisesSaid := GasRises.over
#print axioms gasRises_holds
end Go.Proofs.Ytpliedimdhilcaa
