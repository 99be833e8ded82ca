/- What the KV laws use of the parts that are shared, in one text (eseat.py). -/
import Derived.Test.YthjnebngdcdicaaKb5
import Derived.Maps.StringElems
import Derived.Lib.SlBytesConst
import Derived.Deep.QuietTactic
import Derived.BigQuiet
import Derived.StillTailTactics
import Derived.Laws.BitsAllLaws
-- RpMore
namespace Go.Mun
open Go Go.RowKit Go.Proofs

theorem cutw_h {P : Program} {t e : TypeId} {z : Value} {size bytes : Nat} (hT : SliceTy P t e z size bytes) (A : Option Addr) (n c : Nat) {kh : IntKind} {hi' : Int} {hi : Nat} (hhi : hi' = hi) (h2 : hi ≤ c) :
    ∀ w, (Instr.slice t (.slice A n c) none (some (.int kh hi')) none).run P w = .ok (.slice A hi c) w := by
  subst hhi
  intro w
  rw [run_slice_h w t A n c hT.under kh hi (by omega) (by omega), hT.sizeOf_elem]
  have e : ∀ A : Option Addr, A.map (·.add 0) = A := fun A => by cases A <;> simp [Addr.add]
  simp [Result.andThen, sliced, e]
theorem own_cap {w : World} {base size n c : Nat} {e : TypeId} {A : Option Addr} {xs : List Value} (h : w.ownsRow base e size (.slice A n c) n xs) : n ≤ c := by
  rcases h.2 with ⟨e1, e2⟩ | ⟨g, cap, cur, e1, _, _, hc, _⟩
  · omega
  · injection e1 with e1 e2 e3; omega
theorem bytes_head {w : World} {A : Option Addr} {n c m : Nat} {b : List UInt8} (h : Bytes w (.slice A n c) b) (hm : m ≤ n) : Bytes w (.slice A m c) (b.take m) := by
  obtain ⟨A', n', c', e, h1, h2, h3, h4⟩ := h
  injection e with e1 e2 e3
  subst e1 e2 e3
  refine ⟨A, m, c, rfl, by rw [List.length_take]; omega, by omega, h3, ?_⟩
  have := h4.take m
  simpa [bv, List.map_take] using this
theorem take_more' {LL : List (List Rec)} {k : Nat} {l : List Rec} (h : LL[k]? = some l) : LL.take (k + 1) = LL.take k ++ [l] := by
  obtain ⟨hk, hx⟩ := List.getElem?_eq_some_iff.1 h
  rw [List.take_succ_eq_append_getElem hk, hx]
theorem all_more {LL : List (List Rec)} {k : Nat} {l : List Rec} (h : LL[k]? = some l) : allBB (LL.take (k + 1)) = allBB (LL.take k) ++ batchB l := by rw [take_more' h, allBB_append]; simp [allBB]
theorem allBB_bd {LL : List (List Rec)} (h : ∀ l ∈ LL, SmallL l) : (allBB LL).length ≤ 42013 * LL.length := by
  induction LL with
  | nil => exact Nat.zero_le _
  | cons l LL ih =>
    have e : allBB (l :: LL) = batchB l ++ allBB LL := rfl
    rw [e, List.length_append, List.length_cons]
    have h1 := batchB_bd (h l (by simp))
    have h2 := ih fun y hy => h y (by simp [hy])
    omega
theorem same_map {LL : List (List Rec)} (h : ∀ l ∈ LL, SmallL l) : SameLL (LL.map normL) LL := by
  refine ⟨by simp, fun k x y hx hy => ?_⟩
  rw [List.getElem?_map, hy] at hx
  injection hx with hx
  subst hx
  exact normL_same (h y (List.mem_of_getElem? hy)).2
theorem tmod_nat {q N : Nat} : ((q : Int)).tmod ((N : Int) + 1) = ((q % (N + 1) : Nat) : Int) := by
  rw [Int.tmod_eq_emod_of_nonneg (by omega)]
  rfl


theorem read_whole {LL : List (List Rec)} (hs : ∀ l ∈ LL, SmallL l) : batches (allBB LL) = (LL.map normL, (allBB LL).length) := by
  obtain ⟨g1, g2, g3⟩ := bat_all (b := allBB LL) LL 0 [] [] hs (Nat.zero_le _) (by simp)
  show bat _ 0 0 [] [] = _
  rw [g1, bat_none g3]
  simp
theorem read_torn {LL : List (List Rec)} {t : List Rec} {c : Nat} (hs : ∀ l ∈ LL, SmallL l) (ht : SmallL t) (hc : c < (batchB t).length) : batches (allBB LL ++ (batchB t).take c) = (LL.map normL, (allBB LL).length) := by
  obtain ⟨g1, g2, g3⟩ := bat_all (b := allBB LL ++ (batchB t).take c) LL 0 [] _ hs (Nat.zero_le _) rfl
  show bat _ 0 0 [] [] = _
  rw [g1, bat_torn_ops _ _ t.length (by have := ht.1; omega) t _ [] c ht.2 g2 hc g3]
  simp
theorem batchB_pos (l : List Rec) (h : SmallL l) : 0 < (batchB l).length := by
  unfold batchB
  rw [List.length_append, endR_len (by have := h.1; omega)]
  omega
theorem tmod_nat' {q N : Nat} : ((q : Int)).tmod (N : Int) = ((q % N : Nat) : Int) := by
  rw [Int.tmod_eq_emod_of_nonneg (by omega)]
  rfl

section
variable {P : Program} {w : World}
/-- append, at an operation with a guard that is wanted -/
theorem wpList_append_rd_want {ops : Array Oper} {rest : List Oper} {o : Oper} {a : Act} {Q : Exit → Act → World → Prop} (hw : Region.wanted o (yielded ops a.tmps) = true) (s x : Operand) (t : TypeId)
    (ho : o.op = .call { callee := .builtin .append, args := #[s, x], argTypes := #[t, t] })
    (base : Nat) (e : TypeId) (z : Value) (size bytes : Nat) (hT : SliceTy P t e z size bytes)
    (v : Value) (n : Nat) (xs : List Value) (hs : a.eval s = v) (hown : w.ownsRow base e size v n xs)
    (A : Option Addr) (m c : Nat) (news : List Value) (hx : a.eval x = .slice A m c) (hl : news.length = m * size) (hr : Rd w A news) (h1 : ∀ u ∈ news, u.oneCell' = true)
    (h63 : n + m ≤ maxLen) (hbytes : (n + m) * bytes ≤ 140737488355328) (hbase : base ≤ w.heap.size)
    (h : ∀ v' w', w'.ownsRow base e size v' (n + m) (xs ++ news) → w.grownBy w' v.ownBlock → (v'.ownBlock = v.ownBlock ∨ v'.ownBlock = some w.heap.size) → wpList P ops Q rest (a.put o.dst v') w') : wpList P ops Q (o :: rest) a w :=
  wpList_step fun K hK => by
    rw [if_pos hw]
    exact wp_append_rd w s x t ho base e z size bytes hT v n xs hs hown A m c news hx hl hr h1 h63 hbytes hbase fun v' w' g1 g2 g3 => hK _ _ (h v' w' g1 g2 g3)
/-- a copy, at an operation with a guard that is wanted -/
theorem wpList_move_want {ops : Array Oper} {rest : List Oper} {o : Oper} {a : Act} {Q : Exit → Act → World → Prop} (hw : Region.wanted o (yielded ops a.tmps) = true) (x : Operand) (ho : o.op = .move x) (h : wpList P ops Q rest (a.put o.dst (a.eval x)) w) : wpList P ops Q (o :: rest) a w :=
  wpList_step fun K hK => by
    rw [if_pos hw]
    unfold Oper.wp execOp
    simp only [ho, Sem.run_pure]
    exact hK _ _ h
/-- whatever yields a value, at an operation with a guard that is wanted -/
theorem wpList_pure_want {ops : Array Oper} {rest : List Oper} {o : Oper} {a : Act} {Q : Exit → Act → World → Prop} (hw : Region.wanted o (yielded ops a.tmps) = true) (v : Value) (hv : ∀ K : Act → World → Prop, K (a.put o.dst v) w → Oper.wp P o a w K Q)
    (h : wpList P ops Q rest (a.put o.dst v) w) : wpList P ops Q (o :: rest) a w :=
  wpList_step fun K hK => by
    rw [if_pos hw]
    exact hv K (hK _ _ h)
/-- '[]T{x}', at an operation with a guard that is wanted -/
theorem wpList_row_val_want {ops : Array Oper} {rest : List Oper} {o : Oper} {a : Act} {Q : Exit → Act → World → Prop} (hw : Region.wanted o (yielded ops a.tmps) = true) {t e : TypeId} (x : Operand) (ho : o.op = .buildSlice t 1 #[(0, x)])
    {z : Value} {size bytes : Nat} (hT : SliceTy P t e z size bytes) (hs : size ≤ 16777216) {v : Value} (hx : a.eval x = v) (hc : v.cells.size = size)
    (h : ∀ w', Blk w' w.heap.size e v.cells → Below w.heap.size w w' → w.heap.size < w'.heap.size → wpList P ops Q rest (a.put o.dst (.slice (some ⟨w.heap.size, 0, none⟩) 1 1)) w') : wpList P ops Q (o :: rest) a w :=
  wpList_step fun K hK => by
    rw [if_pos hw]
    have hr := run_row_one hT hs v hc w
    unfold Oper.wp execOp
    simp only [ho, List.map_toArray, List.map_cons, List.map_nil, hx, Sem.run_bind, hr, Result.andThen_ok, Sem.run_pure]
    exact hK _ _ (h _ (Blk.new w e _) ((Below.refl _ _).alloc (Nat.le_refl _) _) (by simp))
end
end Go.Mun

-- NetFit
namespace Go.Mun
open Go Go.RowKit Go.Proofs

theorem SmallL.fit {l : List Rec} (h : SmallL l) : Fit l := fun o ho => by
  have := (h.2 o ho).key
  have := (h.2 o ho).value
  exact ⟨by omega, by omega⟩
theorem SmallL.vals {l : List Rec} (h : SmallL l) : ∀ o ∈ l, o.value.length ≤ 1000000 := fun o ho => (h.fit o ho).2
theorem net_fit {l : List Rec} (h : SmallL l) : (netL l).length ≤ 100 ∧ ∀ o ∈ netL l, o.value.length ≤ 1000000 := by
  refine ⟨?_, fun o ho => ?_⟩
  · unfold netL
    rw [List.length_map]
    have := length_net l
    have := h.1
    omega
  · unfold netL at ho
    obtain ⟨p, hp, rfl⟩ := List.mem_map.1 ho
    have h1 := h.vals _ (netP_mem hp).2
    unfold Rec.bare
    split
    · simp
    · exact h1
theorem live_net (f l : List Rec) : liveP [f, netL l] = liveP [f, l] := by
  show doneP (doneP [] f) (netL l) = doneP (doneP [] f) l
  exact done_net (doneP_rises _ List.Pairwise.nil) l
/-- '[]T{x, y}', at an operation with a guard that is wanted -/
theorem wpList_row_two_want {P : Program} {ops : Array Oper} {rest : List Oper} {o : Oper} {a : Act} {w : World} {Q : Exit → Act → World → Prop} (hw : Region.wanted o (yielded ops a.tmps) = true) {t e : TypeId} (x y : Operand) (ho : o.op = .buildSlice t 2 #[(0, x), (1, y)])
    {z : Value} {bytes : Nat} (hT : SliceTy P t e z 1 bytes) {v u : Value} (hx : a.eval x = v) (hy : a.eval y = u) (hv : v.cells = #[v]) (hu : u.cells = #[u])
    (h : ∀ w', Blk w' w.heap.size e #[v, u] → Below w.heap.size w w' → w.heap.size < w'.heap.size → wpList P ops Q rest (a.put o.dst (.slice (some ⟨w.heap.size, 0, none⟩) 2 2)) w') : wpList P ops Q (o :: rest) a w :=
  wpList_step fun K hK => by
    rw [if_pos hw]
    have hr := run_row_two hT v u hv hu w
    unfold Oper.wp execOp
    simp only [ho, List.map_toArray, List.map_cons, List.map_nil, hx, hy, Sem.run_bind, hr, Result.andThen_ok, Sem.run_pure]
    exact hK _ _ (h _ (Blk.new w e _) ((Below.refl _ _).alloc (Nat.le_refl _) _) (by simp))
end Go.Mun

-- NetBatch
namespace Go.Mun
open Go Go.RowKit Go.Proofs

set_option maxRecDepth 100000 in
set_option maxHeartbeats 4000000 in
theorem Batch_ok (v : Value) (l : List Rec) (w : World) (h : SliceOf 3 rOp w v l) (hs : SmallL l) :
    Calls Try.prog 32 #[v] w fun e w' => ∃ v', e = .returned (.tuple #[v', .int .i64 0]) ∧ w'.ownsRow w.heap.size 5 1 v' (batchB l).length (bv (batchB l)) ∧ Below w.heap.size w w' := by
  have hT := bytesTyR
  have zO := zOp
  have hTO := opTy
  obtain ⟨A, n, c, xs, rfl, g1, g2, g3, g4, g5, g6⟩ := h
  unfold maxLen at g4
  have HS := Lib.hid hs
  have h60 : n ≤ 60 := by have := hs.1; omega
  have HX := Lib.hid (fun w' (hB : Below w.heap.size w w') k (hk : k < n) => op_full (g5.ext hB) g1 g2 g6 hk)
  have HL := Lib.hid g1
  have HT := Lib.hid (show l.take n = l from List.take_of_length_le (by omega))
  have HE := Lib.hid (endR_err (n := n) (by omega))
  have HEL := Lib.hid (endR_len (n := n) (by omega))
  have HBD := Lib.hid (fun k => opsB_bd (l := l.take k) (fun r hr => hs.2 r (List.mem_of_mem_take hr)))
  have d1 : decide ((100000 : Int) < n) = false := decide_eq_false (by omega)
  clear g1 g2 g5 g6 hs
  go_enter Try.func32, Try.ntmps32
  go_wp2
  go_loopw [4, 13] (fun vo i wr => ∃ k : Nat, k ≤ n ∧ i = .int .i64 k ∧ Below w.heap.size w wr ∧ wr.ownsRow w.heap.size 5 1 vo (opsB (l.take k)).length (bv (opsB (l.take k)))) (fun _ i _ => n - (RowKit.intOf i).toNat)
  case atStart => exact ⟨0, Nat.zero_le _, rfl, Below.refl _ _, own_zero _ _⟩
  case round =>
    obtain ⟨k, hk, rfl, hBr, hor⟩ := hrel
    have hbd : (opsB (l.take k)).length ≤ 42000 := by have := HBD.out k; rw [List.length_take] at this; omega
    by_cases hlt : k < n
    · obtain ⟨ad, r, kv, vv, rfl, q0, q1, q2, hr, hr1, hr2, hbk, hbv⟩ := HX.out wr hBr k hlt
      have hro : OpOk r := HS.out.2 r (List.mem_of_getElem? hr)
      have HRE := Lib.hid hro.err
      have hrl := hro.len
      have HTM := Lib.hid (show opsB (l.take (k + 1)) = opsB (l.take k) ++ r.bytes by rw [take_more hr, opsB_append]; simp [opsB])
      obtain ⟨kind, del, key, value, nn⟩ := r
      simp only at hr1 hr2 hbk hbv q0
      subst hr1 hr2
      have f2 : decide ((k : Int) < n) = true := decide_eq_true (by omega)
      have b3 : (0 : Int) ≤ k := by omega
      have b4 : (k : Int) < n := by omega
      obtain ⟨AK, m, cK, rfl, _⟩ := id hbk
      obtain ⟨AV, m', cV, rfl, _⟩ := id hbv
      have HKV := Lib.hid (And.intro hbk hbv)
      clear hro hr hbk hbv
      go_upto_region 5 with (first
        | ((with_reducible refine gd_alloc ?_); refine wpList_alloc_blk rfl 32 rfl zO ?_; intro w9 hx9 hb9 hl9)
        | ((with_reducible refine gd_store ?_); refine wpList_store_all rfl 32 (.tmp 6) (.tmp 16) rfl #[.bool del, .slice AK m cK, .slice AV m' cV] hx9 hTO rfl rfl rfl rfl ?_; intro w10 hx10 hg10)
        | fail)
      have hb10 := below_blk hb9 hb9.size hg10 (Nat.le_refl _)
      have hB10 := below_step hBr hb10
      have hor10 := own_ext hor hb10
      clear hx9 hb9 hg10
      go_wp2_with (first
        | ((with_reducible refine gd_load ?_); refine wpList_load_blk rfl 32 (.tmp 6) rfl hx10 hTO rfl ?_)
        | (go_at_call 47; refine (Pack_ok ⟨1, del, key, value, 0⟩ _ _ _ (HKV.out.1.ext hB10) (HKV.out.2.ext hB10) (by simp) (by simp) HRE.out).mono ?_; rintro e w3 ⟨v3, rfl, hb3, ho3⟩; have hB3 := below_step hB10 hb3; have hor3 := own_ext hor10 hb3)
        | (at_builtin; refine wpList_append_bytes rfl (.tmp 26) (.tmp 27) _ rfl w.heap.size hT rfl hor3 rfl (Bytes.own ho3) (by omega) hB3.size ?_; intro v4 w4 ho4 hg4 hat4; have hB4 := below_own hB3 hor3 (Nat.le_refl _) hg4 hB3.size)
        | fail)
      go_roundw
      case rel => exact ⟨k + 1, by omega, by go_num, hB4, row_b ho4 HTM.out⟩
      case measure => simp [RowKit.intOf]; omega
    · obtain rfl : k = n := by omega
      have f2 : decide ((k : Int) < k) = false := decide_eq_false (by omega)
      rw [HT.out] at hor hbd
      go_wp2_with (first
        | (go_at_call 47; refine (Pack_ok (endR k) _ _ _ (Bytes.nil _) (Bytes.nil _) (by show (-9223372036854775808 : Int) ≤ (k : Int); omega) (by show (k : Int) ≤ 9223372036854775807; omega) HE.out).mono ?_; rintro e w3 ⟨v3, rfl, hb3, ho3⟩; have hB3 := below_step hBr hb3; have hor3 := own_ext hor hb3)
        | (at_builtin; refine wpList_append_bytes rfl (.tmp 43) (.tmp 44) _ rfl w.heap.size hT rfl hor3 rfl (Bytes.own ho3) (by rw [HEL.out]; omega) hB3.size ?_; intro v4 w4 ho4 hg4 hat4; have hB4 := below_own hB3 hor3 (Nat.le_refl _) hg4 hB3.size)
        | fail)
      go_ret2
      exact ⟨_, rfl, row_b ho4 (by unfold batchB; rw [HL.out]), hB4⟩
theorem bare_same (o : Rec) : sameOp o.bare o = true := by
  unfold sameOp Rec.bare
  cases o.del <;> simp
theorem net_same (l : List Rec) : SameL (netL l) ((netP l).map (·.2)) := by
  refine ⟨by simp [netL], fun k x y hx hy => ?_⟩
  unfold netL at hx
  rw [List.getElem?_map] at hx hy
  cases h : (netP l)[k]? with
  | none => rw [h] at hx; cases hx
  | some p =>
    rw [h] at hx hy
    injection hx with hx
    injection hy with hy
    subst hx hy
    exact bare_same _
theorem norm_left {o : Rec} (h : o.kind = 1) : o.norm.key = o.key ∧ o.norm.left = o.left ∧ o.norm.value.length ≤ o.value.length := by
  have e : o.isEnd = false := by simp [Rec.isEnd, h]
  unfold Rec.norm
  rw [e]
  refine ⟨rfl, ?_, ?_⟩
  · unfold Rec.left
    cases o.del <;> simp
  · cases o.del <;> simp
theorem done_norm {l : List Rec} (h : SmallL l) (S : PL (List UInt8)) : doneP S (normL l) = doneP S l := by
  have hk : ∀ o ∈ l, o.kind = 1 := fun o ho => (h.2 o ho).kind
  clear h
  induction l generalizing S with
  | nil => rfl
  | cons o l ih =>
    obtain ⟨h1, h2, _⟩ := norm_left (hk o (by simp))
    show doneP (setP S o.norm.key o.norm.left) (normL l) = doneP (setP S o.key o.left) l
    rw [h1, h2]
    exact ih _ fun x hx => hk x (by simp [hx])
theorem live_norm {LL : List (List Rec)} (h : ∀ l ∈ LL, SmallL l) : liveP (LL.map normL) = liveP LL := by
  unfold liveP
  generalize ([] : PL (List UInt8)) = S
  induction LL generalizing S with
  | nil => rfl
  | cons l LL ih =>
    show (LL.map normL).foldl doneP (doneP S (normL l)) = LL.foldl doneP (doneP S l)
    rw [done_norm (h l (by simp))]
    exact ih (fun x hx => h x (by simp [hx])) _
theorem norm_fit {LL : List (List Rec)} (h : ∀ l ∈ LL, SmallL l) : ∀ x ∈ LL.map normL, x.length ≤ 100 ∧ ∀ o ∈ x, o.value.length ≤ 1000000 := fun x hx => by
  obtain ⟨l, hl, rfl⟩ := List.mem_map.1 hx
  refine ⟨by unfold normL; rw [List.length_map]; have := (h l hl).1; omega, fun o ho => ?_⟩
  unfold normL at ho
  obtain ⟨p, hp, rfl⟩ := List.mem_map.1 ho
  have h1 := (norm_left ((h l hl).2 p hp).kind).2.2
  have h2 := ((h l hl).2 p hp).value
  omega
theorem small_fit {LL : List (List Rec)} (h : ∀ l ∈ LL, SmallL l) : FitL LL := fun l hl => ⟨by have := (h l hl).1; omega, (h l hl).fit⟩
end Go.Mun

-- Strs
namespace Go.Mun
open Go Go.RowKit

def rStr : Reader (List UInt8) := fun _ cs l => cs = [.string ⟨l.toArray⟩] ∧ l.length ≤ maxLen
theorem opens_str {H : Type} (enc : TypeId × Value → H) {P : Program} (base : Nat) (spare : Nat → Bool) (held : Bool) {t : TypeId} (ht : P.underlying t = some .string) : Opens enc P base spare held t rStr := fun w fuel cs x h => by
  obtain ⟨s, hc, hz, hw⟩ := DataW.trod_string ht h
  refine ⟨s.data.toList, ?_, ?_⟩
  · rw [hc]
  · have : s.data.toList.length = s.size := by cases s; simp [ByteArray.size]
    rw [this]
    exact hw
def Strs (w : World) (v : Value) (l : List (List UInt8)) : Prop := ∃ A n c, v = .slice A n c ∧ l.length = n ∧ n ≤ c ∧ c ≤ maxLen ∧ Rd w A (l.map fun x => .string ⟨x.toArray⟩)
theorem Strs.ext {w w' : World} {v : Value} {l : List (List UInt8)} (h : Strs w v l) (hb : Below w.heap.size w w') : Strs w' v l := by
  obtain ⟨A, n, c, e, h1, h2, h3, h4⟩ := h
  exact ⟨A, n, c, e, h1, h2, h3, h4.ext hb⟩
theorem Strs.of_slice {w : World} {v : Value} {l : List (List UInt8)} (h : SliceOf 1 rStr w v l) : Strs w v l := by
  obtain ⟨A, n, c, xs, rfl, g1, g2, g3, g4, g5, g6⟩ := h
  refine ⟨A, n, c, rfl, g1, g3, g4, ?_⟩
  have e : (l.map fun x => Value.string ⟨x.toArray⟩) = xs := by
    apply List.ext_getElem
    · rw [List.length_map]; omega
    · intro i h1 h2
      rw [List.length_map] at h1
      have := (g6 i h1).1
      have e2 : (chunk xs 1 i)[0]? = some (.string ⟨(l[i]).toArray⟩) := by rw [this]; rfl
      unfold chunk at e2
      rw [List.getElem?_take, if_pos (by omega), List.getElem?_drop, Nat.mul_one, Nat.add_zero, List.getElem?_eq_getElem h2] at e2
      injection e2 with e2
      rw [List.getElem_map]
      exact e2.symm
  rw [e]
  exact g5
theorem Strs.at_ {w : World} {A : Option Addr} {n c : Nat} {l : List (List UInt8)} (h : Strs w (.slice A n c) l) {i : Nat} (hi : i < n) : ∃ ad x, A = some ad ∧ l[i]? = some x ∧ w.cell? (ad.add i) = some (.string ⟨x.toArray⟩) := by
  obtain ⟨A', n', c', e, h1, h2, h3, h4⟩ := h
  injection e with e1 e2 e3
  subst e1 e2 e3
  have hl : i < l.length := by omega
  have hx : (l.map fun x => Value.string ⟨x.toArray⟩)[i]? = some (.string ⟨(l[i]).toArray⟩) := by rw [List.getElem?_map, List.getElem?_eq_getElem hl]; rfl
  obtain ⟨ad, e, hc⟩ := h4 i _ hx
  exact ⟨ad, l[i], e, List.getElem?_eq_getElem hl, hc⟩
theorem Strs.len {w : World} {A : Option Addr} {n c : Nat} {l : List (List UInt8)} (h : Strs w (.slice A n c) l) : l.length = n ∧ n ≤ c ∧ c ≤ maxLen := by
  obtain ⟨A', n', c', e, h1, h2, h3, h4⟩ := h
  injection e with e1 e2 e3
  subst e1 e2 e3
  exact ⟨h1, h2, h3⟩
theorem Strs.own {w : World} {base : Nat} {e : TypeId} {v : Value} {n : Nat} {l : List (List UInt8)} (hl : l.length = n) (h : w.ownsRow base e 1 v n (l.map fun x => .string ⟨x.toArray⟩)) : Strs w v l := by
  rcases h.2 with ⟨rfl, rfl⟩ | ⟨g, cap, cur, rfl, _, _, hnc, hcm, _⟩
  · have : l = [] := List.eq_nil_of_length_eq_zero hl
    subst this
    exact ⟨none, 0, 0, rfl, rfl, Nat.le_refl _, by unfold maxLen; omega, Rd.nil _ _⟩
  · exact ⟨_, n, cap, rfl, hl, hnc, hcm, Rd.own h⟩
/-- a byte of a row of one's own -/
theorem own_byte {w : World} {base : Nat} {e : TypeId} {A : Option Addr} {n c : Nat} {l : List UInt8} (h : w.ownsRow base e 1 (.slice A n c) n (bv l)) {i : Nat} (hi : i < n) :
    ∃ g cur, A = some ⟨g, 0, none⟩ ∧ base ≤ g ∧ Blk w g e cur ∧ i < cur.size ∧ ∀ (w' : World) (x : UInt8), Blk w' g e (cur.setIfInBounds i (.int .u8 (x.toNat : Int))) → w'.ownsRow base e 1 (.slice A n c) n (bv (l.set i x)) := by
  rcases h.2 with ⟨e1, e2⟩ | ⟨g, cap, cur, e1, hb, hh, hc, hm, hs, ht⟩
  · omega
  · injection e1 with e1 e3 e4
    subst e1 e4
    have hl : l.length = n := by have := h.1; rw [bv_length] at this; omega
    refine ⟨g, cur, rfl, hb, hh, by omega, fun w' x hx => ⟨by rw [bv_length, List.length_set]; omega, .inr ⟨g, c, _, rfl, hb, hx, hc, hm, by rw [Array.size_setIfInBounds]; exact hs, ?_⟩⟩⟩
    rw [Array.toList_setIfInBounds, List.take_set, ht, bv_set]
end Go.Mun

-- Lit
namespace Go.Mun
open Go Go.RowKit

theorem run_lit {P : Program} {w : World} {t e : TypeId} (ht : P.underlying t = some (.slice e)) (he : P.underlying e = some (.int .u8)) {g n c : Nat} {cs : Array Value} (hb : Blk w g e cs) :
    (convert t t (.slice (some ⟨g, 0, none⟩) n c)).run P w = .ok (.slice (some ⟨g, 0, none⟩) n c) (w.freeze ⟨g, cs.size, none⟩ 1) := by
  have hsh : w.shape? g = some (e, cs.size) := by unfold World.shape?; rw [show w.heap[g]? = _ from hb]
  simp [convert, run_underlying ht, run_underlying he, markStringish, hsh, Result.andThen]
theorem lit_block {w : World} {g : Nat} {e : TypeId} {cs : Array Value} (hb : Blk w g e cs) : (w.freeze ⟨g, cs.size, none⟩ 1).heap[g]? = some (.cells cs e (cs.size, cs.size + 1)) := by
  have h : w.heap[g]? = some (.cells cs e (0, 0)) := hb
  simp [World.freeze, Array.getElem?_modify, h]
theorem lit_grown (w : World) (g k : Nat) : w.grownBy (w.freeze ⟨g, k, none⟩ 1) (some g) := by
  refine ⟨rfl, rfl, rfl, by simp [World.freeze], fun b _ hne => ?_⟩
  have : g ≠ b := fun e => hne (by rw [e])
  simp [World.freeze, Array.getElem?_modify, this]
theorem lit_size (w : World) (g k : Nat) : (w.freeze ⟨g, k, none⟩ 1).heap.size = w.heap.size := by simp [World.freeze]
theorem wpList_lit {P : Program} {ops : Array Oper} {rest : List Oper} {o : Oper} {a : Act} {w : World} {Q : Exit → Act → World → Prop} (hgd : o.guard = none) {t e : TypeId} (x : Operand) (ho : o.op = .convert t t x) (ht : P.underlying t = some (.slice e)) (he : P.underlying e = some (.int .u8))
    {g n c : Nat} {cs : Array Value} {l : List UInt8} (hx : a.eval x = .slice (some ⟨g, 0, none⟩) n c) (hb : Blk w g e cs) (hcs : cs.toList = bv l) (hn : l.length = n) (hnc : n ≤ c) (hcm : c ≤ maxLen)
    (h : ∀ w', w.grownBy w' (some g) → w'.heap.size = w.heap.size → Bytes w' (.slice (some ⟨g, 0, none⟩) n c) l → wpList P ops Q rest (a.put o.dst (.slice (some ⟨g, 0, none⟩) n c)) w') : wpList P ops Q (o :: rest) a w := by
  refine wpList_plain hgd fun _ hK => ?_
  have hr := run_lit ht he (n := n) (c := c) hb
  unfold Oper.wp execOp
  simp only [ho, hx, Sem.run_bind, hr, Result.andThen_ok, Sem.run_pure]
  refine hK _ _ (h _ (lit_grown _ _ _) (lit_size _ _ _) ⟨_, _, _, rfl, hn, hnc, hcm, fun j u hj => ⟨_, rfl, ?_⟩⟩)
  have hj' : cs[j]? = some u := by rw [← Array.getElem?_toList, hcs]; exact hj
  have hb2 := lit_block hb
  have e : (⟨g, 0, none⟩ : Addr).add j = ⟨g, j, none⟩ := by unfold Addr.add; split <;> simp_all
  rw [e]
  simp [World.cell?, hb2, hj']
end Go.Mun

-- FsPlain2
namespace Go.Mun
open Go Go.RowKit

abbrev cA : Ky := [97]
noncomputable def cutM (a b : List UInt8) (cut : Int) : FSs := planM (appM (dirM (syncM (appM newM cA a) cA)) cA b) 0 cut []
theorem crash_fs {M : FSs} {i : Nat} (h : hasId (left M) i) : (crashM M).fs i = cutF M.cut (M.fs i) := if_pos h
theorem cutM_sync (a b : List UInt8) (cut : Int) : syncM (cutM a b cut) cA = crashM (cutM a b cut) := by
  unfold syncM
  rw [thenM_off (M := cutM a b cut) (ok := isB (cutM a b cut) cA) rfl rfl]
  exact if_pos rfl
theorem cutM_fs (a b : List UInt8) (cut : Int) : (cutM a b cut).fs 0 = ⟨([] ++ a) ++ b, ([] ++ a).length⟩ := rfl
theorem cutM_read (a b : List UInt8) (cut : Int) (hc : 0 ≤ cut) : readM (startM (crashM (cutM a b cut))) cA = a ++ b.take (cut.toNat % (b.length + 1)) := by
  have h1 : readM (startM (crashM (cutM a b cut))) cA = ((crashM (cutM a b cut)).fs 0).b := rfl
  rw [h1, crash_fs ⟨(cA, 0), List.mem_singleton.2 rfl, rfl⟩, cutM_fs]
  show (([] ++ a) ++ b).take (cutAt cut ⟨([] ++ a) ++ b, ([] ++ a).length⟩) = _
  unfold cutAt
  rw [if_pos hc]
  simp only [List.nil_append, List.length_append]
  rw [show a.length + b.length - a.length + 1 = b.length + 1 by omega, List.take_append]
  simp only [Nat.add_sub_cancel_left]
  rw [List.take_of_length_le (by omega)]
end Go.Mun

-- FsAlive
namespace Go.Mun
open Go Go.RowKit Go.Proofs Go.Maps

theorem Bools.nil (w : World) : Bools w (.slice none 0 0) [] := ⟨none, 0, 0, rfl, rfl, Nat.le_refl _, by decide, Rd.nil _ _⟩
theorem u8Ty : Try.prog.underlying 5 = some (.int .u8) := Try.underlying5
theorem u8sTy : Try.prog.underlying 22 = some (.slice 5) := Try.underlying22
/-- a literal's block is nobody's -/
theorem Free.lit {k : Nat} {o : Own} {w : World} {n c : Nat} (ho : OwnIn o w) : Free o k (.slice (some ⟨w.heap.size, 0, none⟩) n c) :=
  Free.new ho fun ad e => by injection e with e; subst e; exact Nat.le_refl _
end Go.Mun

-- FsPlain3
namespace Go.Mun
open Go Go.RowKit Go.Maps

theorem cut0 (l : List UInt8) : cutF 0 ⟨l, l.length⟩ = ⟨l, l.length⟩ := by
  have e : cutAt 0 ⟨l, l.length⟩ = l.length := by unfold cutAt; simp
  unfold cutF
  rw [e]
  simp
theorem hasId_get {P : PL Nat} {n : Ky} {i : Nat} (h : getP P n = some i) : hasId P i := ⟨(n, i), getP_mem h, rfl⟩
theorem crash_isB {M : FSs} {n : Ky} {i : Nat} (h : getP (left M) n = some i) : isB (startM (crashM M)) n = true := by
  show (!false && (getP (left M) n).isSome) = true
  rw [h]
  rfl
theorem crash_isB_no {M : FSs} {n : Ky} (h : getP (left M) n = none) : isB (startM (crashM M)) n = false := by
  show (!false && (getP (left M) n).isSome) = false
  rw [h]
  rfl
theorem crash_read {M : FSs} {n : Ky} {i : Nat} {l : List UInt8} (h : getP (left M) n = some i) (hf : M.fs i = ⟨l, l.length⟩) (hc : M.cut = 0) : readM (startM (crashM M)) n = l := by
  unfold readM
  rw [if_pos (crash_isB h)]
  show (match getP (left M) n with | some i => ((crashM M).fs i).b | none => []) = l
  rw [h]
  show ((crashM M).fs i).b = l
  rw [crash_fs (hasId_get h), hf, hc, cut0]
theorem crash_read_no {M : FSs} {n : Ky} (h : getP (left M) n = none) : readM (startM (crashM M)) n = [] := by
  unfold readM
  rw [if_neg (by rw [crash_isB_no h]; simp)]
theorem app_off {M : FSs} {n : Ky} {b : List UInt8} (h : appOk M n = true) (ho : M.op = 0) : appM M n b = crashM M := by
  unfold appM
  rw [thenM_off h (failsB_yes ho)]
  exact if_pos ho
theorem dir_off {M : FSs} (h : M.dead = false) (ho : M.op = 0) : dirM M = crashM M := by
  unfold dirM
  rw [thenM_off (by rw [h]; rfl) (failsB_yes ho)]
  exact if_pos ho
theorem read_cast {w : World} {base : Nat} {e : TypeId} {v : Value} {M : FSs} {n : Ky} {l : List UInt8} (h : w.ownsRow base e 1 v (readM M n).length (bv (readM M n))) (hl : readM M n = l) : w.ownsRow base e 1 v l.length (bv l) := by rw [hl] at h; exact h
/-- bytes that lie where k's files do not -/
structure Held (k : Nat) (o : Own) (w : World) (v : Value) (l : List UInt8) : Prop where
  bytes : Bytes w v l
  free : Free o k v
theorem bytes_lt {w : World} {ad : Addr} {n c : Nat} {l : List UInt8} (h : Bytes w (.slice (some ad) n c) l) (hn : 0 < n) : ad.block < w.heap.size := by
  obtain ⟨A, n', c', e', h1, _, _, h4⟩ := h
  injection e' with e1 e2 e3
  subst e1 e2
  obtain ⟨u, hu⟩ : ∃ u, (bv l)[0]? = some u := ⟨_, List.getElem?_eq_getElem (by rw [bv_length]; omega)⟩
  obtain ⟨ad', e5, hc⟩ := h4 0 u hu
  injection e5 with e5
  subst e5
  have := World.block_lt_of_cell? w _ hc
  rwa [add_block] at this
theorem Held.turn {k : Nat} {o o' : Own} {w w' : World} {v : Value} {l : List UInt8} (h : Held k o w v l) (hT : Turn k o o' w w') : Held k o' w' v l :=
  ⟨h.bytes.turn hT h.free, fun ad n c e hn t => by
    have hb := h.bytes
    rw [e] at hb
    rw [hT.old _ (bytes_lt hb hn)]
    exact h.free ad n c e hn t⟩
theorem Held.ext {k : Nat} {o : Own} {w w' : World} {v : Value} {l : List UInt8} (h : Held k o w v l) (hb : Below w.heap.size w w') : Held k o w' v l := ⟨h.bytes.ext hb, h.free⟩
theorem Held.own {k : Nat} {o : Own} {w w' : World} {e : TypeId} {v : Value} {n : Nat} {l : List UInt8} (ho : OwnIn o w) (h : w'.ownsRow w.heap.size e 1 v n (bv l)) : Held k o w' v l :=
  ⟨Bytes.own h, fun ad n' c ev _ t => by
    rcases h.2 with ⟨e1, _⟩ | ⟨g, cap, cur, e1, hb, _⟩
    · rw [ev] at e1; cases e1
    · rw [ev] at e1
      injection e1 with e1
      injection e1 with e1
      rw [e1, ho _ hb]
      simp⟩
abbrev cNew : Ky := [110, 101, 119]
abbrev cOld : Ky := [111, 108, 100]
abbrev cZ : Ky := [122]
end Go.Mun

-- FsPlans
namespace Go.Mun
open Go Go.RowKit

abbrev cNone : Ky := [110, 111, 110, 101]
/-- behind i operations, of which op go well -/
structure PlOk (op i : Nat) (M : FSs) : Prop where
  live : i ≤ op → M.dead = false ∧ M.op = (op : Int) - i ∧ M.ops = 1 + (i : Int) ∧ (getP M.now cA).isSome = true ∧ getP M.now cNone = none
  gone : op < i → M.dead = true ∧ M.ops = 1 + (op : Int)
section
variable {op i : Nat} {M : FSs}
theorem PlOk.empty (M : FSs) : appOk M [] = false := appOk_name (by decide)
theorem PlOk.isA (h : PlOk op i M) : isB M cA = !M.dead := by
  unfold isB
  by_cases hi : i ≤ op
  · rw [(h.live hi).2.2.2.1]; simp
  · rw [(h.gone (by omega)).1]; rfl
theorem PlOk.app (h : PlOk op i M) : appOk M cA = !M.dead := by
  by_cases hi : i ≤ op
  · obtain ⟨j, hj⟩ := Option.isSome_iff_exists.1 (h.live hi).2.2.2.1
    rw [appOk_old (h.live hi).1 (by decide) hj, (h.live hi).1]; rfl
  · rw [appOk_dead (h.gone (by omega)).1, (h.gone (by omega)).1]; rfl
theorem PlOk.ren (h : PlOk op i M) : (isB M cA && namedB cA) = !M.dead := by rw [h.isA, show namedB cA = true from by decide, Bool.and_true]
theorem PlOk.goes (h : PlOk op i M) {X : Bool} (hX : X = !M.dead) : goesB M X = decide (i < op) := by
  unfold goesB
  rw [hX]
  by_cases hi : i ≤ op
  · obtain ⟨h1, h2, _⟩ := h.live hi
    rw [h1]
    by_cases h3 : i = op
    · rw [failsB_yes (by rw [h2]; omega), decide_eq_false (by omega)]; rfl
    · rw [failsB_no (by rw [h2]; omega), decide_eq_true (by omega)]; rfl
  · rw [(h.gone (by omega)).1, decide_eq_false (by omega)]; rfl
theorem PlOk.next (h : PlOk op i M) {X : Bool} (hX : X = !M.dead) {g : FSs → FSs} (hg : ∀ M1 : FSs, (getP M1.now cA).isSome = true → getP M1.now cNone = none → (g M1).dead = M1.dead ∧ (g M1).op = M1.op ∧ (g M1).ops = M1.ops ∧ (g M1).now = M1.now) : PlOk op (i + 1) (thenM M X g) := by
  by_cases hi : i ≤ op
  · obtain ⟨h1, h2, h3, h4, h5⟩ := h.live hi
    by_cases h6 : i = op
    · rw [thenM_off (by rw [hX, h1]; rfl) (failsB_yes (by rw [h2]; omega)), show failsM M = crashM M from if_pos (by rw [h2]; omega)]
      exact ⟨fun h => absurd h (by omega), fun _ => ⟨rfl, by show M.ops = _; rw [h3, h6]⟩⟩
    · have hf : failsB M = false := failsB_no (by rw [h2]; omega)
      rw [thenM_go (by rw [hX, h1]; rfl) hf]
      obtain ⟨g1, g2, g3, g4⟩ := hg (failsM M) (by rw [goes_now hf]; exact h4) (by rw [goes_now hf]; exact h5)
      refine ⟨fun h7 => ⟨?_, ?_, ?_, ?_, ?_⟩, fun h => absurd h (by omega)⟩
      · rw [g1, failsM_no (of_decide_eq_false hf)]; exact h1
      · rw [g2, failsM_no (of_decide_eq_false hf)]
        show max (-1) (M.op - 1) = _
        rw [h2]; omega
      · rw [g3, failsM_no (of_decide_eq_false hf)]
        show M.ops + 1 = _
        rw [h3]; omega
      · rw [g4, goes_now hf]; exact h4
      · rw [g4, goes_now hf]; exact h5
  · rw [thenM_no (by rw [hX, (h.gone (by omega)).1]; rfl)]
    exact ⟨fun h => absurd h (by omega), fun _ => h.gone (by omega)⟩
theorem PlOk.app0 (_h : PlOk op i M) : appM M [] [] = M := thenM_no (PlOk.empty M)
end
end Go.Mun

-- FsKeep
namespace Go.Mun
open Go Go.RowKit

theorem fails_live {M : FSs} (h : M.op = -1) : failsB M = false := failsB_no (by rw [h]; decide)
theorem goes_live {M : FSs} (h : M.op = -1) : failsM M = { M with op := -1, ops := M.ops + 1 } := by
  rw [failsM_no (by rw [h]; decide), h]
  rfl
/-- there is power, and no loss of it is planned -/
structure Alive (M : FSs) : Prop where
  dead : M.dead = false
  op : M.op = -1
theorem Alive.app {M : FSs} (h : Alive M) (n : Ky) (l : List UInt8) : Alive (appM M n l) := by
  unfold appM
  cases ho : appOk M n
  · rw [thenM_no rfl]; exact h
  · rw [thenM_go rfl (fails_live h.op), goes_live h.op]
    unfold app1
    cases hg : getP M.now n with
    | some i => exact ⟨h.dead, rfl⟩
    | none => exact ⟨h.dead, rfl⟩
/-- all bytes of all files are synced -/
def Synced (M : FSs) : Prop := ∀ p ∈ M.now, (M.fs p.2).s = (M.fs p.2).b.length
/-- what Append does to names and files, while there is power -/
theorem app_old {M : FSs} (h : Alive M) {n : Ky} {i : Nat} {l : List UInt8} (ho : appOk M n = true) (hg : getP M.now n = some i) : (appM M n l).now = M.now ∧ (appM M n l).syn = M.syn ∧ (appM M n l).waits = M.waits ∧ (appM M n l).next = M.next ∧ (appM M n l).fs = fun j => if j = i then ⟨(M.fs i).b ++ l, (M.fs i).s⟩ else M.fs j := by
  unfold appM
  rw [thenM_go ho (fails_live h.op), goes_live h.op]
  unfold app1
  have : getP ({ M with op := -1, ops := M.ops + 1 } : FSs).now n = some i := hg
  rw [this]
  exact ⟨rfl, rfl, rfl, rfl, rfl⟩
theorem app_new {M : FSs} (h : Alive M) {n : Ky} {l : List UInt8} (ho : appOk M n = true) (hg : getP M.now n = none) : (appM M n l).now = setP M.now n (some M.next) ∧ (appM M n l).syn = M.syn ∧ (appM M n l).waits = M.waits ++ [.made n M.next] ∧ (appM M n l).next = M.next + 1 ∧ ∀ j, j ≠ M.next → (appM M n l).fs j = M.fs j := by
  unfold appM
  rw [thenM_go ho (fails_live h.op), goes_live h.op]
  unfold app1
  have : getP ({ M with op := -1, ops := M.ops + 1 } : FSs).now n = none := hg
  rw [this]
  refine ⟨rfl, rfl, rfl, rfl, fun j hj => ?_⟩
  show (if j = M.next then _ else (if j = M.next then _ else M.fs j) : FileS) = M.fs j
  rw [if_neg hj, if_neg hj]
theorem sync_old {M : FSs} (h : Alive M) {n : Ky} {i : Nat} (ho : isB M n = true) (hg : getP M.now n = some i) : (syncM M n).now = M.now ∧ (syncM M n).fs = fun j => if j = i then ⟨(M.fs i).b, (M.fs i).b.length⟩ else M.fs j := by
  unfold syncM
  rw [thenM_go ho (fails_live h.op), goes_live h.op]
  unfold sync1
  have : getP ({ M with op := -1, ops := M.ops + 1 } : FSs).now n = some i := hg
  rw [this]
  exact ⟨rfl, rfl⟩
theorem isB_some {M : FSs} (h : Alive M) {n : Ky} {i : Nat} (hg : getP M.now n = some i) : isB M n = true := by unfold isB; rw [h.dead, hg]; rfl
theorem isB_none {M : FSs} {n : Ky} (hg : getP M.now n = none) : isB M n = false := by unfold isB; rw [hg]; simp
/-- Append and Sync of one file leave all synced -/
theorem Synced.step {M : FSs} (h : Synced M) (ha : Alive M) (n : Ky) (l : List UInt8) : Synced (syncM (appM M n l) n) ∧ (syncM (appM M n l) n).now.length ≤ M.now.length + 1 := by
  have ha1 := ha.app n l
  cases ho : appOk M n
  · have e1 : appM M n l = M := thenM_no ho
    rw [e1]
    cases hg : getP M.now n with
    | none => rw [show syncM M n = M from thenM_no (isB_none hg)]; exact ⟨h, Nat.le_succ _⟩
    | some i =>
      obtain ⟨e2, e3⟩ := sync_old ha (isB_some ha hg) hg
      refine ⟨fun p hp => ?_, by rw [e2]; exact Nat.le_succ _⟩
      rw [e2] at hp
      rw [e3]
      show (if p.2 = i then _ else M.fs p.2 : FileS).s = (if p.2 = i then _ else M.fs p.2 : FileS).b.length
      by_cases e : p.2 = i
      · rw [if_pos e]
      · rw [if_neg e]; exact h p hp
  · cases hg : getP M.now n with
    | some i =>
      obtain ⟨e1, _, _, _, e4⟩ := app_old (l := l) ha ho hg
      have hg1 : getP (appM M n l).now n = some i := by rw [e1]; exact hg
      obtain ⟨e2, e3⟩ := sync_old ha1 (isB_some ha1 hg1) hg1
      refine ⟨fun p hp => ?_, by rw [e2, e1]; exact Nat.le_succ _⟩
      rw [e2, e1] at hp
      rw [e3]
      show (if p.2 = i then _ else (appM M n l).fs p.2 : FileS).s = (if p.2 = i then _ else (appM M n l).fs p.2 : FileS).b.length
      by_cases e : p.2 = i
      · rw [if_pos e]
      · rw [if_neg e, e4]
        show (if p.2 = i then _ else M.fs p.2 : FileS).s = (if p.2 = i then _ else M.fs p.2 : FileS).b.length
        rw [if_neg e]
        exact h p hp
    | none =>
      obtain ⟨e1, _, _, _, e4⟩ := app_new (l := l) ha ho hg
      have hg1 : getP (appM M n l).now n = some M.next := by rw [e1, getP_set, if_pos rfl]
      obtain ⟨e2, e3⟩ := sync_old ha1 (isB_some ha1 hg1) hg1
      refine ⟨fun p hp => ?_, by rw [e2, e1]; exact length_set _ _ _⟩
      rw [e2, e1] at hp
      rw [e3]
      show (if p.2 = M.next then _ else (appM M n l).fs p.2 : FileS).s = (if p.2 = M.next then _ else (appM M n l).fs p.2 : FileS).b.length
      by_cases e : p.2 = M.next
      · rw [if_pos e]
      · rw [if_neg e, e4 _ e]
        rcases mem_set hp with ⟨hp, _⟩ | ⟨_, hp⟩
        · exact h p hp
        · injection hp with hp
          exact absurd hp.symm e
/-- behind the first SyncDir: bytes may be put behind what is there -/
structure Kept2 (M F : FSs) : Prop where
  alive : Alive F
  now : F.now = M.now
  syn : F.syn = M.now
  waits : F.waits = []
  next : F.next = M.next
  fs : ∀ p ∈ M.now, (F.fs p.2).s = (M.fs p.2).b.length ∧ (M.fs p.2).b <+: (F.fs p.2).b
theorem Kept2.app {M F : FSs} (h : Kept2 M F) {n : Ky} {i : Nat} (hg : getP M.now n = some i) (hn : NameOk n) (l : List UInt8) : Kept2 M (appM F n l) := by
  have hg' : getP F.now n = some i := by rw [h.now]; exact hg
  obtain ⟨e1, e2, e3, e4, e5⟩ := app_old (l := l) h.alive (appOk_old h.alive.dead (decide_eq_true (p := n ≠ [] ∧ n.length ≤ 100) hn) hg') hg'
  refine ⟨h.alive.app n l, e1.trans h.now, e2.trans h.syn, e3.trans h.waits, e4.trans h.next, fun p hp => ?_⟩
  obtain ⟨f1, f2⟩ := h.fs p hp
  rw [e5]
  show (if p.2 = i then _ else F.fs p.2 : FileS).s = _ ∧ _ <+: (if p.2 = i then _ else F.fs p.2 : FileS).b
  by_cases e : p.2 = i
  · rw [if_pos e, ← e]
    exact ⟨f1, f2.trans (List.prefix_append _ _)⟩
  · rw [if_neg e]
    exact ⟨f1, f2⟩
/-- behind Append of one more file -/
structure Kept3 (M F : FSs) : Prop where
  alive : Alive F
  syn : F.syn = M.now
  waits : F.waits = [] ∨ (getP M.now cNew = none ∧ ∃ j, F.waits = [.made cNew j])
  fs : ∀ p ∈ M.now, (F.fs p.2).s = (M.fs p.2).b.length ∧ (M.fs p.2).b <+: (F.fs p.2).b
theorem Kept2.more {M F : FSs} (h : Kept2 M F) (hf : Fine F) (hl : M.now.length < 200) (l : List UInt8) : Kept3 M (appM F cNew l) := by
  cases hg : getP M.now cNew with
  | some i =>
    have := h.app hg ⟨by decide, by decide⟩ l
    exact ⟨this.alive, this.syn, .inl this.waits, this.fs⟩
  | none =>
    have hg' : getP F.now cNew = none := by rw [h.now]; exact hg
    obtain ⟨e1, e2, e3, e4, e5⟩ := app_new (l := l) h.alive (appOk_new h.alive.dead (by decide) hg' (by rw [h.now]; exact hl)) hg'
    refine ⟨h.alive.app _ _, e2.trans h.syn, .inr ⟨hg, F.next, by rw [e3, h.waits]; rfl⟩, fun p hp => ?_⟩
    rw [e5 p.2 (by have := hf.fresh p (by rw [h.now]; exact hp); omega)]
    exact h.fs p hp
/-- behind the loss of power: what was synced is there, and one name more at the most -/
theorem Kept3.crash {M F : FSs} (h : Kept3 M F) (hf : Fine F) (hM : Rises M.now) (cut : Int) (keep : List Bool) :
    (∀ p ∈ M.now, isB (startM (crashM (planM F 0 cut keep))) p.1 = true ∧ (M.fs p.2).b <+: readM (startM (crashM (planM F 0 cut keep))) p.1) ∧
    ((namesM (startM (crashM (planM F 0 cut keep)))).length = M.now.length ∨ (namesM (startM (crashM (planM F 0 cut keep)))).length = M.now.length + 1) := by
  have hleft : left (planM F 0 cut keep) = M.now ∨ (getP M.now cNew = none ∧ ∃ j, left (planM F 0 cut keep) = setP M.now cNew (some j)) := by
    have e : left (planM F 0 cut keep) = doL F.syn (F.waits.take (kept (planM F 0 cut keep))) := rfl
    rw [e, h.syn]
    rcases h.waits with hw | ⟨hn, j, hw⟩
    · rw [hw, List.take_nil]; exact .inl rfl
    · rw [hw]
      cases kept (planM F 0 cut keep) with
      | zero => exact .inl rfl
      | succ m => exact .inr ⟨hn, j, by rw [List.take_of_length_le (by show 1 ≤ m + 1; omega)]; rfl⟩
  refine ⟨fun p hp => ?_, ?_⟩
  · have hg : getP (left (planM F 0 cut keep)) p.1 = some p.2 := by
      have h0 := getP_at hM hp
      rcases hleft with e | ⟨hn, j, e⟩
      · rw [e]; exact h0
      · rw [e, getP_set, if_neg]
        · exact h0
        · intro e2; rw [e2, hn] at h0; cases h0
    refine ⟨crash_isB hg, ?_⟩
    have e1 : readM (startM (crashM (planM F 0 cut keep))) p.1 = (cutF cut (F.fs p.2)).b := by
      unfold readM
      rw [if_pos (crash_isB hg)]
      show (match getP (left (planM F 0 cut keep)) p.1 with | some i => ((crashM (planM F 0 cut keep)).fs i).b | none => []) = _
      rw [hg]
      show ((crashM (planM F 0 cut keep)).fs p.2).b = _
      rw [crash_fs (hasId_get hg)]
      rfl
    rw [e1]
    obtain ⟨f1, f2⟩ := h.fs p hp
    show (M.fs p.2).b <+: (F.fs p.2).b.take (cutAt cut (F.fs p.2))
    have hc := (cutAt_le (cut := cut) (hf.sized p.2)).1
    exact List.prefix_take_iff.2 ⟨f2, by omega⟩
  · show ((left (planM F 0 cut keep)).map (·.1)).length = _ ∨ ((left (planM F 0 cut keep)).map (·.1)).length = _
    rw [List.length_map]
    rcases hleft with e | ⟨hn, j, e⟩
    · exact .inl (by rw [e])
    · refine .inr ?_
      rw [e]
      show (insP (cNew, j) (dropP M.now cNew)).length = _
      rw [length_insP]
      have hd : dropP M.now cNew = M.now := by
        unfold dropP
        refine List.filter_eq_self.2 fun p hp => decide_eq_true fun e2 => ?_
        have := getP_at hM hp
        rw [e2, hn] at this
        cases this
      rw [hd]
end Go.Mun

-- FrRow
namespace Go.Mun
open Go Go.RowKit Go.Proofs Go.Maps

/-- a name and its file, in two cells -/
def ent (φ : Nat → Nat) (p : Ky × Nat) : List Value := [.string ⟨p.1.toArray⟩, ptr (φ p.2)]
def erow (φ : Nat → Nat) (P : PL Nat) : List Value := P.flatMap (ent φ)
/-- names that may be read -/
structure Ents (φ : Nat → Nat) (w : World) (v : Value) (P : PL Nat) : Prop where
  at_ : ∃ A c, v = .slice A P.length c ∧ P.length ≤ c ∧ c ≤ maxLen ∧ Rd w A (erow φ P)
theorem Ents.ext {φ : Nat → Nat} {w w' : World} {v : Value} {P : PL Nat} (h : Ents φ w v P) (hb : Below w.heap.size w w') : Ents φ w' v P := by
  obtain ⟨A, c, e, h1, h2, h3⟩ := h.at_
  exact ⟨A, c, e, h1, h2, h3.ext hb⟩
end Go.Mun

-- FrWait
namespace Go.Mun
open Go Go.RowKit Go.Proofs Go.Maps

/-- one block and one row may have been written -/
structure Wr2 (p : Nat) (r : Option Nat) (w w' : World) : Prop where
  os : w'.os = w.os
  tape : w'.tape = w.tape
  output : w'.output = w.output
  size : w.heap.size ≤ w'.heap.size
  block : ∀ b, b < w.heap.size → b ≠ p → some b ≠ r → w'.heap[b]? = w.heap[b]?
theorem Wr2.refl {p : Nat} {r : Option Nat} (w : World) : Wr2 p r w w := ⟨rfl, rfl, rfl, Nat.le_refl _, fun _ _ _ _ => rfl⟩
theorem Wr2.trans {p : Nat} {r : Option Nat} {x y z : World} (h : Wr2 p r x y) (k : Wr2 p r y z) : Wr2 p r x z :=
  ⟨k.os.trans h.os, k.tape.trans h.tape, k.output.trans h.output, Nat.le_trans h.size k.size, fun b hb h1 h2 => (k.block b (Nat.lt_of_lt_of_le hb h.size) h1 h2).trans (h.block b hb h1 h2)⟩
theorem Wr2.below {p : Nat} {r : Option Nat} {w w' : World} (h : Below w.heap.size w w') : Wr2 p r w w' := ⟨h.os, h.tape, h.output, h.size, fun b hb _ _ => h.block b hb⟩
theorem Wr2.row {p : Nat} {r : Option Nat} {w w' : World} (h : w.grownBy w' r) : Wr2 p r w w' := ⟨h.os, h.tape, h.output, h.size, fun b hb _ h2 => h.block b hb h2⟩
theorem Wr2.put {p : Nat} {r : Option Nat} {w w' : World} (h : w.grownBy w' (some p)) : Wr2 p r w w' := ⟨h.os, h.tape, h.output, h.size, fun b hb h1 _ => h.block b hb fun e => h1 (by injection e)⟩
section
variable {p q nW cW : Nat} {AW : Option Addr} {cs xs : List Value} {hd : Value → Array Value} {L : Nat → Bool} {V : Nat → Value} {w w' : World}
end
section
variable {p q nN cN : Nat} {AN : Option Addr} {φ : Nat → Nat} {P : PL Nat} {hd : Value → Array Value} {L : Nat → Bool} {V : Nat → Value} {w w' : World}
end
end Go.Mun

-- Lone
namespace Go.Mun
open Go Go.RowKit Go.Proofs Go.Maps

theorem Free.argB {k : Nat} {o : Own} {w0 : World} {v : Value} {l : List Bool} (hb : ∀ b, b < w0.heap.size → o b = none) (h : Bools w0 v l) : Free o k v := fun ad n c e hn t => by
  obtain ⟨A, n', c', e', h1, _, _, h4⟩ := h
  rw [e] at e'
  injection e' with e1 e2 e3
  subst e1 e2
  obtain ⟨u, hu⟩ : ∃ u, (l.map Value.bool)[0]? = some u := ⟨_, List.getElem?_eq_getElem (by rw [List.length_map]; omega)⟩
  obtain ⟨ad', e5, hc⟩ := h4 0 u hu
  injection e5 with e5
  subst e5
  have := World.block_lt_of_cell? w0 _ hc
  rw [add_block] at this
  rw [hb _ this]
  simp
/-- bytes in a block that is nobody's -/
structure Lone (o : Own) (w : World) (v : Value) (l : List UInt8) : Prop where
  bytes : Bytes w v l
  none : ∀ ad n c, v = .slice (some ad) n c → 0 < n → o ad.block = none
theorem Lone.free {o : Own} {w : World} {v : Value} {l : List UInt8} (h : Lone o w v l) (k : Nat) : Free o k v := fun ad n c e hn t => by rw [h.none ad n c e hn]; simp
theorem Lone.turn {k : Nat} {o o' : Own} {w w' : World} {v : Value} {l : List UInt8} (h : Lone o w v l) (hT : Turn k o o' w w') : Lone o' w' v l :=
  ⟨h.bytes.turn hT (h.free k), fun ad n c e hn => by
    have hb := h.bytes
    rw [e] at hb
    rw [hT.old _ (bytes_lt hb hn)]
    exact h.none ad n c e hn⟩
theorem Lone.ext {o : Own} {w w' : World} {v : Value} {l : List UInt8} (h : Lone o w v l) (hb : Below w.heap.size w w') : Lone o w' v l := ⟨h.bytes.ext hb, h.none⟩
theorem Lone.own {o : Own} {w w' : World} {base : Nat} {e : TypeId} {v : Value} {n : Nat} {l : List UInt8} (ho : OwnIn o w) (hw : w.heap.size ≤ base) (h : w'.ownsRow base e 1 v n (bv l)) : Lone o w' v l :=
  ⟨Bytes.own h, fun ad n' c ev _ => by
    rcases h.2 with ⟨e1, _⟩ | ⟨g, cap, cur, e1, hb, _⟩
    · rw [ev] at e1; cases e1
    · rw [ev] at e1
      injection e1 with e1
      injection e1 with e1
      rw [e1]
      exact ho _ (Nat.le_trans hw hb)⟩
/-- a row in a block that is nobody's -/
structure LoneR (o : Own) (w : World) (base : Nat) (e : TypeId) (size : Nat) (v : Value) (n : Nat) (xs : List Value) : Prop where
  row : w.ownsRow base e size v n xs
  none : ∀ g, v.ownBlock = some g → o g = none
theorem LoneR.turn {k : Nat} {o o' : Own} {w w' : World} {base : Nat} {e : TypeId} {size n : Nat} {v : Value} {xs : List Value} (h : LoneR o w base e size v n xs) (hT : Turn k o o' w w') : LoneR o' w' base e size v n xs :=
  ⟨own_same h.row fun g hg => hT.block g (h.row.lt g hg).2 fun t => by rw [h.none g hg]; simp, fun g hg => by rw [hT.old _ (h.row.lt g hg).2]; exact h.none g hg⟩
theorem LoneR.ext {o : Own} {w w' : World} {base : Nat} {e : TypeId} {size n : Nat} {v : Value} {xs : List Value} (h : LoneR o w base e size v n xs) (hb : Below w.heap.size w w') : LoneR o w' base e size v n xs := ⟨own_ext h.row hb, h.none⟩
theorem LoneR.new {o : Own} {w w' : World} {base : Nat} {e : TypeId} {size n : Nat} {v : Value} {xs : List Value} (ho : OwnIn o w) (hw : w.heap.size ≤ base) (h : w'.ownsRow base e size v n xs) : LoneR o w' base e size v n xs :=
  ⟨h, fun g hg => ho g (Nat.le_trans hw (h.lt g hg).1)⟩
/-- a row that is k's, and grows -/
structure RowK (k : Nat) (o : Own) (w : World) (base : Nat) (e : TypeId) (size : Nat) (v : Value) (n : Nat) (xs : List Value) : Prop where
  row : w.ownsRow base e size v n xs
  own : ∀ g, v.ownBlock = some g → o g = some (k, .waits)
theorem RowK.nil (k : Nat) (o : Own) (w : World) (base : Nat) (e : TypeId) (size : Nat) : RowK k o w base e size (.slice none 0 0) 0 [] := ⟨World.ownsRow_nil _ _ _ _, fun g h => by cases h⟩
theorem RowK.turn {k j : Nat} {o o' : Own} {w w' : World} {base : Nat} {e : TypeId} {size n : Nat} {v : Value} {xs : List Value} (h : RowK k o w base e size v n xs) (hT : Turn j o o' w w') (hj : k ≠ j) : RowK k o' w' base e size v n xs :=
  ⟨own_same h.row fun g hg => (hT.other hj (h.row.lt g hg).2 (h.own g hg)).1, fun g hg => (hT.other hj (h.row.lt g hg).2 (h.own g hg)).2⟩
theorem RowK.ext {k : Nat} {o : Own} {w w' : World} {base : Nat} {e : TypeId} {size n : Nat} {v : Value} {xs : List Value} (h : RowK k o w base e size v n xs) (hb : Below w.heap.size w w') : RowK k o w' base e size v n xs := ⟨own_ext h.row hb, h.own⟩
theorem RowK.grow {k : Nat} {o : Own} {w w' : World} {base : Nat} {e : TypeId} {size n n' : Nat} {v v' : Value} {xs xs' : List Value} (h : RowK k o w base e size v n xs) (ho : OwnIn o w) (h' : w'.ownsRow base e size v' n' xs') (hg : w.grownBy w' v.ownBlock) (hat : v'.ownBlock = v.ownBlock ∨ v'.ownBlock = some w.heap.size) :
    ∃ o', RowK k o' w' base e size v' n' xs' ∧ Turn k o o' w w' ∧ OwnIn o' w' := by
  have T := Turn.row ho hg h.own
  rcases hat with e1 | e1
  · exact ⟨o, ⟨h', fun g hg' => h.own g (e1 ▸ hg')⟩, T, ho.more hg.size⟩
  · have hlt := (h'.lt _ e1).2
    refine ⟨give o w.heap.size (k, .waits), ⟨h', fun g hg' => ?_⟩, T.give (Nat.le_refl _) _, (ho.more hg.size).give hlt _⟩
    rw [e1] at hg'
    injection hg' with hg'
    subst hg'
    exact give_same _ _ _
theorem run_row_four {P : Program} {t e : TypeId} {z : Value} {bytes : Nat} (hT : SliceTy P t e z 1 bytes) (x y u s : Value) (hx : x.cells = #[x]) (hy : y.cells = #[y]) (hu : u.cells = #[u]) (hs : s.cells = #[s]) (w : World) :
    (Instr.buildSlice t 4 #[(0, x), (1, y), (2, u), (3, s)]).run P w = .ok (.slice (some ⟨w.heap.size, 0, none⟩) 4 4) (w.alloc (.cells #[x, y, u, s] e)) := by
  obtain ⟨ht, i, hi, hz, hsz, hby, hzs, h0⟩ := hT
  have hf : Instr.fill (fun k => some (k * 1, 1)) ((Array.range 4).map (fun k => z.cells[k % z.cells.size]!)) [(0, x), (1, y), (2, u), (3, s)] = some #[x, y, u, s] := by
    simp [Instr.fill, hx, hy, hu, hs, Array.range]
    apply Array.ext_getElem?
    intro j
    match j with
    | 0 => simp
    | 1 => simp
    | 2 => simp
    | 3 => simp
    | j + 4 => simp
  simp [Instr.buildSlice, run_underlying ht, sizeOf, typeInfo, hi, hsz, hz, zeroValue, newRow]
  simp only [Nat.mul_one] at hf
  rw [hf]
  rfl
theorem wpList_row_four {P : Program} {ops : Array Oper} {rest : List Oper} {o : Oper} {a : Act} {w : World} {Q : Exit → Act → World → Prop} (hgd : o.guard = none) {t e : TypeId} (x y r q : Operand) (ho : o.op = .buildSlice t 4 #[(0, x), (1, y), (2, r), (3, q)])
    {z : Value} {bytes : Nat} (hT : SliceTy P t e z 1 bytes) {v u s p : Value} (hx : a.eval x = v) (hy : a.eval y = u) (hr : a.eval r = s) (hq : a.eval q = p) (hv : v.cells = #[v]) (hu : u.cells = #[u]) (hs : s.cells = #[s]) (hp : p.cells = #[p])
    (h : ∀ w', Blk w' w.heap.size e #[v, u, s, p] → Below w.heap.size w w' → w.heap.size < w'.heap.size → wpList P ops Q rest (a.put o.dst (.slice (some ⟨w.heap.size, 0, none⟩) 4 4)) w') : wpList P ops Q (o :: rest) a w := by
  refine wpList_plain hgd fun _ hK => ?_
  have hn := run_row_four hT v u s p hv hu hs hp w
  unfold Oper.wp execOp
  simp only [ho, List.map_toArray, List.map_cons, List.map_nil, hx, hy, hr, hq, Sem.run_bind, hn, Result.andThen_ok, Sem.run_pure]
  exact hK _ _ (h _ (Blk.new w e _) ((Below.refl _ _).alloc (Nat.le_refl _) _) (by simp))
end Go.Mun

-- FrCrash
namespace Go.Mun
open Go Go.RowKit Go.Proofs Go.Maps

section
variable {q B at0 j : Nat} {vo : Value} {xs : List Value} {nm : Ky} {l' : List UInt8} {L : Nat → Bool} {V : Nat → Value} {w w' : World}
end
/-- a new row, a new file, new bytes get their owners -/
def giveV (o : Own) (v : Value) (x : Nat × Tag) : Own := match v.ownBlock with | some b => give o b x | none => o
theorem giveV_some {o : Own} {v : Value} {x : Nat × Tag} {b : Nat} (h : v.ownBlock = some b) : giveV o v x b = some x := by unfold giveV; rw [h]; exact give_same _ _ _
theorem giveV_ne {o : Own} {v : Value} {x : Nat × Tag} {b : Nat} (h : v.ownBlock ≠ some b) : giveV o v x b = o b := by
  unfold giveV
  cases e : v.ownBlock with
  | none => rfl
  | some c => exact give_ne fun e2 => h (by rw [e, e2])
theorem OwnIn.giveV {o : Own} {w : World} (h : OwnIn o w) {v : Value} {x : Nat × Tag} (hb : ∀ b, v.ownBlock = some b → b < w.heap.size) : OwnIn (giveV o v x) w := by
  intro c hc
  rw [giveV_ne fun e => by have := hb c e; omega]
  exact h c hc
theorem Turn.giveV {k : Nat} {o o' : Own} {w w' : World} (h : Turn k o o' w w') {v : Value} (hb : ∀ b, v.ownBlock = some b → w.heap.size ≤ b) (t : Tag) : Turn k o (giveV o' v (k, t)) w w' := by
  unfold Go.Mun.giveV
  cases e : v.ownBlock with
  | none => exact h
  | some c => exact h.give (hb c e) t
end Go.Mun

-- PlArg
namespace Go.Mun
open Go Go.RowKit Go.ChangeShapes Go.WideShapes Go.ChangeAt Go.Proofs Go.Maps

/-! ### the reference's calls -/
section
variable {k p : Nat} {M : FSs} {o o' : Own} {K L : Nat} {w0 w w' : World}
end
/-! ### a region with two calls, one behind the other -/
structure J2 (c1 c2 : Nat) (A B C : World → Prop) (L : Nat → Bool) (_V : Nat → Value) (w : World) : Prop where
  a : L c1 = false → A w
  b : L c1 = true → L c2 = false → B w
  c : L c2 = true → C w
section
variable {c1 c2 : Nat} {A B C : World → Prop} {L : Nat → Bool} {V : Nat → Value} {w w' : World}
theorem J2.far (h : J2 c1 c2 A B C L V w) {k : Nat} {v : Value} (h1 : c1 ≠ k) (h2 : c2 ≠ k) : J2 c1 c2 A B C (updL L k) (upd V k v) w :=
  ⟨fun e => h.a (by rwa [updL_ne h1] at e), fun e1 e2 => h.b (by rwa [updL_ne h1] at e1) (by rwa [updL_ne h2] at e2), fun e => h.c (by rwa [updL_ne h2] at e)⟩
theorem J2.one (hne : c1 ≠ c2) (h2 : L c2 = false) {v : Value} (hB : B w') : J2 c1 c2 A B C (updL L c1) (upd V c1 v) w' :=
  ⟨fun e => (by rw [updL_same] at e; cases e), fun _ _ => hB, fun e => (by rw [updL_ne hne.symm, h2] at e; cases e)⟩
theorem J2.two (hne : c1 ≠ c2) (h1 : L c1 = true) {v : Value} (hC : C w') : J2 c1 c2 A B C (updL L c2) (upd V c2 v) w' :=
  ⟨fun e => (by rw [updL_ne hne, h1] at e; cases e), fun _ e => (by rw [updL_same] at e; cases e), fun _ => hC⟩
theorem J2.blk (h : J2 c1 c2 A B C L V w) {g : Nat} {t : TypeId} {cs : Array Value} (hA : ∀ w, A w → Blk w g t cs) (hB : ∀ w, B w → Blk w g t cs) (hC : ∀ w, C w → Blk w g t cs) : Blk w g t cs := by
  cases e1 : L c2
  · cases e2 : L c1
    · exact hA _ (h.a e2)
    · exact hB _ (h.b e2 e1)
  · exact hC _ (h.c e1)
end
end Go.Mun

-- PlSame
namespace Go.Mun
open Go Go.RowKit Go.Proofs Go.Maps

theorem FsIn.drewN {k p : Nat} {M : FSs} {o : Own} {K L : Nat} {w0 w : World} (h : FsIn k p M o K L w0 w) (q : Nat) : FsIn k p M o K L w0 (w.drewN q) := h.ext (below_drewN (Below.refl _ _) q)
end Go.Mun

-- PlStep
namespace Go.Mun
open Go Go.RowKit Go.Proofs Go.Maps

/-- a block that is nobody's -/
structure LoneB (o : Own) (w : World) (g : Nat) (t : TypeId) (cs : Array Value) : Prop where
  blk : Blk w g t cs
  none : o g = none
theorem LoneB.turn {k : Nat} {o o' : Own} {w w' : World} {g : Nat} {t : TypeId} {cs : Array Value} (h : LoneB o w g t cs) (hT : Turn k o o' w w') : LoneB o' w' g t cs :=
  ⟨h.blk.same (hT.block g h.blk.lt fun t => by rw [h.none]; simp), by rw [hT.old g h.blk.lt]; exact h.none⟩
theorem LoneB.ext {o : Own} {w w' : World} {g : Nat} {t : TypeId} {cs : Array Value} (h : LoneB o w g t cs) (hb : Below w.heap.size w w') : LoneB o w' g t cs := ⟨h.blk.ext hb, h.none⟩
theorem RowK.fresh {k : Nat} {o : Own} {w w' : World} {base : Nat} {e : TypeId} {n : Nat} {v : Value} {xs : List Value} (ho : OwnIn o w) (hb : Below w.heap.size w w') (hbase : w.heap.size ≤ base) (h : w'.ownsRow base e 1 v n xs) : ∃ o', RowK k o' w' 0 e 1 v n xs ∧ Turn k o o' w w' ∧ OwnIn o' w' :=
  ⟨giveV o v (k, .waits), ⟨own_base h (Nat.zero_le _), fun _ hg => giveV_some hg⟩, (Turn.below ho hb).giveV (fun b e => Nat.le_trans hbase (h.lt b e).1) _, (ho.more hb.size).giveV fun b e => (h.lt b e).2⟩
theorem RowK.free {k j : Nat} {o : Own} {w : World} {base : Nat} {e : TypeId} {n : Nat} {v : Value} {xs : List Value} (h : RowK k o w base e 1 v n xs) (hkj : k ≠ j) : Free o j v := fun ad n' c ev hn t e2 => by
  rcases h.row.2 with ⟨e1, _⟩ | ⟨g, cap, cur, e1, _⟩
  · rw [ev] at e1; cases e1
  · rw [ev] at e1
    injection e1 with e1 e3 e4
    injection e1 with e1
    subst e1
    rw [h.own g (by rw [ev]; rfl)] at e2
    injection e2 with e2
    injection e2 with e2
    exact hkj e2
/-- a cell of a row of one's own is written -/
theorem RowK.put {k : Nat} {o : Own} {w w' : World} {e : TypeId} {n : Nat} {v : Value} {xs ys : List Value} {g : Nat} (h : RowK k o w 0 e 1 v n xs) (ho : OwnIn o w) (hv : v.ownBlock = some g) (hg : w.grownBy w' (some g)) (hr : w'.ownsRow 0 e 1 v n ys) : RowK k o w' 0 e 1 v n ys ∧ Turn k o o w w' ∧ OwnIn o w' :=
  ⟨⟨hr, h.own⟩, Turn.wrote ho hg (h.own g hv), ho.more hg.size⟩
theorem own_bool {w : World} {base : Nat} {e : TypeId} {A : Option Addr} {n c : Nat} {l : List Bool} (h : w.ownsRow base e 1 (.slice A n c) n (l.map .bool)) {i : Nat} (hi : i < n) :
    ∃ g cur b, A = some ⟨g, 0, none⟩ ∧ base ≤ g ∧ Blk w g e cur ∧ i < cur.size ∧ w.cell? ⟨g, i, none⟩ = some (.bool b) ∧ ∀ (w' : World) (x : Bool), Blk w' g e (cur.setIfInBounds i (.bool x)) → w'.ownsRow base e 1 (.slice A n c) n ((l.set i x).map .bool) := by
  have hl : l.length = n := by have := h.1; rw [List.length_map] at this; omega
  obtain ⟨ad, e3, hc⟩ := Rd.own h i (.bool (l[i]'(by omega))) (by rw [List.getElem?_map, List.getElem?_eq_getElem (by omega)]; rfl)
  rcases h.2 with ⟨e1, e2⟩ | ⟨g, cap, cur, e1, hb, hh, hc', hm, hs, ht⟩
  · omega
  · injection e1 with e1 _ e4
    subst e1 e4
    injection e3 with e3
    subst e3
    have h2 := hc
    rw [Addr.add_mid, Nat.zero_add] at h2
    refine ⟨g, cur, l[i], rfl, hb, hh, by omega, h2, fun w' x hx => ⟨by rw [List.length_map, List.length_set]; omega, .inr ⟨g, c, _, rfl, hb, hx, hc', hm, by rw [Array.size_setIfInBounds]; exact hs, ?_⟩⟩⟩
    rw [Array.toList_setIfInBounds, List.take_set, ht, List.map_set]
theorem slice_own {A : Option Addr} {g n c : Nat} (h : A = some ⟨g, 0, none⟩) : (Value.slice A n c).ownBlock = some g := by subst h; rfl
theorem flip_u8 (z : UInt8) : bits .xor .u8 (z.toNat : Int) 255 = ((z ^^^ 255).toNat : Int) := by
  have := u8_xor_nat z.toNat 255 z.toNat_lt (by decide)
  rw [UInt8.toNat_xor]
  exact this
theorem byte_at {w : World} {base : Nat} {e : TypeId} {A : Option Addr} {n c : Nat} {l : List UInt8} (h : w.ownsRow base e 1 (.slice A n c) n (bv l)) {i : Nat} (hi : i < n) : ∃ z : UInt8, ∀ g, A = some ⟨g, 0, none⟩ → w.cell? ⟨g, i, none⟩ = some (.int .u8 (z.toNat : Int)) := by
  have hl : l.length = n := by have := h.1; rw [bv_length] at this; omega
  refine ⟨l[i]'(by omega), fun g e2 => ?_⟩
  have := Rd.own h i _ (bv_get (l := l) (j := i) (by omega))
  obtain ⟨ad, e3, hc⟩ := this
  rw [e2] at e3
  injection e3 with e3
  subst e3
  rwa [Addr.add_mid, Nat.zero_add] at hc
theorem bytes_rd {w : World} {A : Option Addr} {n c : Nat} {l : List UInt8} (h : Bytes w (.slice A n c) l) : Rd w A (bv l) := by
  obtain ⟨A', n', c', e, _, _, _, h4⟩ := h
  injection e with e1 e2 e3
  subst e1
  exact h4
theorem bools_rd {w : World} {A : Option Addr} {n c : Nat} {l : List Bool} (h : Bools w (.slice A n c) l) : Rd w A (l.map .bool) := by
  obtain ⟨A', n', c', e, _, _, _, h4⟩ := h
  injection e with e1 e2 e3
  subst e1
  exact h4
theorem zCrash : (Try.prog.info? 58).bind (·.zero) = some (.agg #[.int .i64 0, .int .i64 0, .slice none 0 0]) := by kernel_rfl
theorem crash_cells {w : World} {g : Nat} {x y z : Value} (h4 : w.cell? ⟨g, 4, none⟩ = some x) (h5 : w.cell? ⟨g, 5, none⟩ = some y) (h6 : w.cell? ⟨g, 6, none⟩ = some z) : w.rangeAt g 4 [x, y, z] := fun j v hv => by
  match j, hv with
  | 0, hv => injection hv with hv; subst hv; exact h4
  | 1, hv => injection hv with hv; subst hv; exact h5
  | 2, hv => injection hv with hv; subst hv; exact h6
/-- a block of k's -/
structure BlkK (k : Nat) (o : Own) (w : World) (g : Nat) (t : TypeId) (cs : Array Value) : Prop where
  blk : Blk w g t cs
  own : o g = some (k, .waits)
theorem BlkK.turn {k j : Nat} {o o' : Own} {w w' : World} {g : Nat} {t : TypeId} {cs : Array Value} (h : BlkK k o w g t cs) (hT : Turn j o o' w w') (hj : k ≠ j) : BlkK k o' w' g t cs :=
  ⟨h.blk.same (hT.other hj h.blk.lt h.own).1, (hT.other hj h.blk.lt h.own).2⟩
theorem BlkK.fresh {k : Nat} {o : Own} {w w' : World} {g : Nat} {t : TypeId} {cs : Array Value} (ho : OwnIn o w) (hb : Below w.heap.size w w') (hg : w.heap.size ≤ g) (hx : Blk w' g t cs) : ∃ o', BlkK k o' w' g t cs ∧ Turn k o o' w w' ∧ OwnIn o' w' :=
  ⟨give o g (k, .waits), ⟨hx, give_same _ _ _⟩, (Turn.below ho hb).give hg _, (ho.more hb.size).give hx.lt _⟩
theorem BlkK.put {k : Nat} {o : Own} {w w' : World} {g : Nat} {t : TypeId} {cs cs' : Array Value} (h : BlkK k o w g t cs) (ho : OwnIn o w) (hx : Blk w' g t cs') (hg : w.grownBy w' (some g)) : BlkK k o w' g t cs' ∧ Turn k o o w w' ∧ OwnIn o w' :=
  ⟨⟨hx, h.own⟩, Turn.wrote ho hg h.own, ho.more hg.size⟩
theorem bools_own {w : World} {base : Nat} {e : TypeId} {v : Value} {n : Nat} {l : List Bool} (hl : l.length = n) (h : w.ownsRow base e 1 v n (l.map .bool)) : Bools w v l := by
  rcases h.2 with ⟨rfl, rfl⟩ | ⟨g, cap, cur, rfl, _, _, hnc, hcm, _⟩
  · have : l = [] := List.eq_nil_of_length_eq_zero hl
    subst this
    exact ⟨none, 0, 0, rfl, rfl, Nat.le_refl _, by unfold maxLen; omega, Rd.nil _ _⟩
  · exact ⟨_, n, cap, rfl, hl, hnc, hcm, Rd.own h⟩
structure Short (a t : Ky) (b : List UInt8) (keep : List Bool) : Prop where
  a : a.length ≤ 200
  t : t.length ≤ 200
  b : b.length ≤ 200
  k : keep.length ≤ 100
/-- what each operation of the region writes -/
def SPl2 (p r g : Nat) (a : Ky) (B0 : Bool) : Nat → Value → World → Prop
  | 0, v, _ => v = .pointer (some ⟨p, 0, none⟩)
  | 1, v, _ => v = .pointer (some ⟨g, 1, none⟩)
  | 2, v, _ => v = .string ⟨a.toArray⟩
  | 3, v, _ => v = .bool B0
  | 4, v, _ => v = .pointer (some ⟨r, 0, none⟩)
  | 5, v, _ => v = .pointer (some ⟨g, 1, none⟩)
  | 6, v, _ => v = .string ⟨a.toArray⟩
  | 7, v, _ => v = .bool B0
  | 8, v, _ => v = .bool true
  | _, v, _ => v = .bool true
theorem SPl2_stays (p r g : Nat) (a : Ky) (B0 : Bool) : ∀ i v (wa wb : World), (fun _ _ => True) wa wb → SPl2 p r g a B0 i v wa → SPl2 p r g a B0 i v wb
  | 0, _, _, _, _, h => h
  | 1, _, _, _, _, h => h
  | 2, _, _, _, _, h => h
  | 3, _, _, _, _, h => h
  | 4, _, _, _, _, h => h
  | 5, _, _, _, _, h => h
  | 6, _, _, _, _, h => h
  | 7, _, _, _, _, h => h
  | 8, _, _, _, _, h => h
  | _ + 9, _, _, _, _, h => h
/-- what each operation of the region writes -/
def SPl5 (p r g : Nat) (a : Ky) (B0 : Bool) : Nat → Value → World → Prop
  | 0, v, _ => v = .pointer (some ⟨p, 0, none⟩)
  | 1, v, _ => v = .pointer (some ⟨g, 1, none⟩)
  | 2, v, _ => v = .string ⟨a.toArray⟩
  | 3, v, _ => v = .bool B0
  | 4, v, _ => v = .pointer (some ⟨r, 0, none⟩)
  | 5, v, _ => v = .pointer (some ⟨g, 1, none⟩)
  | 6, v, _ => v = .string ⟨a.toArray⟩
  | 7, v, _ => v = .bool B0
  | 8, v, _ => v = .bool true
  | _, v, _ => v = .bool true
theorem SPl5_stays (p r g : Nat) (a : Ky) (B0 : Bool) : ∀ i v (wa wb : World), (fun _ _ => True) wa wb → SPl5 p r g a B0 i v wa → SPl5 p r g a B0 i v wb
  | 0, _, _, _, _, h => h
  | 1, _, _, _, _, h => h
  | 2, _, _, _, _, h => h
  | 3, _, _, _, _, h => h
  | 4, _, _, _, _, h => h
  | 5, _, _, _, _, h => h
  | 6, _, _, _, _, h => h
  | 7, _, _, _, _, h => h
  | 8, _, _, _, _, h => h
  | _ + 9, _, _, _, _, h => h
/-- what each operation of the region writes -/
def SPl4 (p r g : Nat) (a t : Ky) (B0 : Bool) : Nat → Value → World → Prop
  | 0, v, _ => v = .pointer (some ⟨p, 0, none⟩)
  | 1, v, _ => v = .pointer (some ⟨g, 1, none⟩)
  | 2, v, _ => v = .string ⟨a.toArray⟩
  | 3, v, _ => v = .pointer (some ⟨g, 2, none⟩)
  | 4, v, _ => v = .string ⟨t.toArray⟩
  | 5, v, _ => v = .bool B0
  | 6, v, _ => v = .pointer (some ⟨r, 0, none⟩)
  | 7, v, _ => v = .pointer (some ⟨g, 1, none⟩)
  | 8, v, _ => v = .string ⟨a.toArray⟩
  | 9, v, _ => v = .pointer (some ⟨g, 2, none⟩)
  | 10, v, _ => v = .string ⟨t.toArray⟩
  | 11, v, _ => v = .bool B0
  | 12, v, _ => v = .bool true
  | _, v, _ => v = .bool true
theorem SPl4_stays (p r g : Nat) (a t : Ky) (B0 : Bool) : ∀ i v (wa wb : World), (fun _ _ => True) wa wb → SPl4 p r g a t B0 i v wa → SPl4 p r g a t B0 i v wb
  | 0, _, _, _, _, h => h
  | 1, _, _, _, _, h => h
  | 2, _, _, _, _, h => h
  | 3, _, _, _, _, h => h
  | 4, _, _, _, _, h => h
  | 5, _, _, _, _, h => h
  | 6, _, _, _, _, h => h
  | 7, _, _, _, _, h => h
  | 8, _, _, _, _, h => h
  | 9, _, _, _, _, h => h
  | 10, _, _, _, _, h => h
  | 11, _, _, _, _, h => h
  | 12, _, _, _, _, h => h
  | _ + 13, _, _, _, _, h => h
end Go.Mun

