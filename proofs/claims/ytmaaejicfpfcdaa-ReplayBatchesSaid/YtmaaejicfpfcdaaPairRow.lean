/- '[]byte(s)'; rows of pairs of the call's own; what is read of bytes that lie apart. -/
import Derived.Test.YtmaaejicfpfcdaaMapV
import Derived.Test.YtmaaejicfpfcdaaRpStays
import Derived.Laws.IdiomStrings
namespace Go.Mun
open Go Go.RowKit Go.Proofs

/-- '[]byte(s)' -/
theorem wpList_str_bytes {ops : Array Oper} {rest : List Oper} {o : Oper} {a : Act} {w : World} {Q : Exit → Act → World → Prop} (hgd : o.guard = none) (x : Operand) (ho : o.op = .convert 9 24 x) {l : List UInt8} (hx : a.eval x = .string ⟨l.toArray⟩) (hl : l.length ≤ maxLen)
    (h : ∀ c w', Bytes w' (.slice (some ⟨w.heap.size, 0, none⟩) l.length c) l → Below w.heap.size w w' → w.heap.size < w'.heap.size → wpList Try.prog ops Q rest (a.put o.dst (.slice (some ⟨w.heap.size, 0, none⟩) l.length c)) w') : wpList Try.prog ops Q (o :: rest) a w := by
  refine wpList_plain hgd fun _ hK => ?_
  have hr := run_bytes_of_string (P := Try.prog) w 9 24 5 ⟨l.toArray⟩ Try.underlying9 Try.underlying24 Try.underlying5
  have hs : (⟨l.toArray⟩ : ByteArray).size = l.length := by simp [ByteArray.size]
  rw [hs] at hr
  have hge := grownCap_ge w l.length 0 5
  have hle := grownCap_le_maxLen w l.length 0 5 hl
  generalize grownCap w l.length 0 5 = c at hr hge hle
  unfold Oper.wp execOp
  simp only [ho, hx, Sem.run_bind, hr, Result.andThen_ok, Sem.run_pure]
  refine hK _ _ (h c _ ⟨_, _, _, rfl, rfl, hge, hle, ?_⟩ ((Below.refl _ _).drew.alloc (Nat.le_refl _) _) (by simp))
  refine Rd.of_cells fun j v hj => ?_
  have hjl : j < l.length := by
    have := (List.getElem?_eq_some_iff.1 hj).1
    rwa [bv_length] at this
  have hb := heap_alloc_new w.drew (.cells (bytesRow ⟨l.toArray⟩ c) 5 ((bytesRow ⟨l.toArray⟩ c).size, (bytesRow ⟨l.toArray⟩ c).size + 1))
  have hadd : (⟨w.heap.size, 0, none⟩ : Addr).add j = ⟨w.heap.size, j, none⟩ := by rw [Addr.add_mid, Nat.zero_add]
  rw [hadd]
  have hc := cell_of_row _ w.heap.size j _ _ _ hb
  rw [hc, bytesRow_at _ _ _ (by simpa using hjl)]
  unfold bv at hj
  rw [List.getElem?_map, List.getElem?_eq_getElem hjl] at hj
  simpa using hj
/-- bytes that lie in no bad block stay -/
theorem Stays.bytes {w : World} {bad : Nat → Prop} {A : Option Addr} {n c : Nat} {l : List UInt8} (h : Bytes w (.slice A n c) l) (hb : ∀ ad, A = some ad → ¬ bad ad.block) : Stays w bad fun w' => Bytes w' (.slice A n c) l := by
  intro w' hs hk
  obtain ⟨A', n', c', e, h1, h2, h3, h4⟩ := h
  injection e with e1 e2 e3
  subst e1 e2 e3
  refine ⟨_, _, _, rfl, h1, h2, h3, fun j v hj => ?_⟩
  obtain ⟨ad, e, hc⟩ := h4 j v hj
  refine ⟨ad, e, ?_⟩
  have hblk : (ad.add j).block = ad.block := by unfold Addr.add; split <;> rfl
  have hlt : (ad.add j).block < w.heap.size := by
    rcases Nat.lt_or_ge (ad.add j).block w.heap.size with h' | h'
    · exact h'
    · unfold World.cell? at hc
      rw [Array.getElem?_eq_none h'] at hc
      cases hc
  exact (World.cell?_of_block (hk _ hlt (by rw [hblk]; exact hb ad e))).trans hc
/-- what is old stays where only new blocks are bad -/
theorem Stays.old {w0 w : World} {bad : Nat → Prop} {P : World → Prop} (hb : Below w0.heap.size w0 w) (hn : ∀ k, bad k → w0.heap.size ≤ k) (h : ∀ w' : World, w0.heap.size ≤ w'.heap.size → (∀ k, k < w0.heap.size → w'.heap[k]? = w0.heap[k]?) → P w') : Stays w bad P := fun w' h1 h2 =>
  h w' (Nat.le_trans hb.size h1) fun k hk => (h2 k (Nat.lt_of_lt_of_le hk hb.size) (fun hbk => by have := hn k hbk; omega)).trans (hb.block k hk)
/-- data in a row of cells -/
def RowC {α : Type} (size : Nat) (R : Reader α) (w : World) (cs : List Value) (l : List α) : Prop := cs.length = l.length * size ∧ ∀ i (h : i < l.length), R w (chunk cs size i) l[i]
theorem RowC.nil {α : Type} (size : Nat) (R : Reader α) (w : World) : RowC size R w [] [] := ⟨by simp, fun i h => by simp at h⟩
theorem RowC.more {α : Type} {size : Nat} {R : Reader α} {w : World} {cs ds : List Value} {l : List α} {x : α} (h : RowC size R w cs l) (hd : ds.length = size) (hx : R w ds x) : RowC size R w (cs ++ ds) (l ++ [x]) := by
  refine ⟨by rw [List.length_append, List.length_append, h.1, hd, List.length_singleton, Nat.add_mul, Nat.one_mul], fun i hi => ?_⟩
  by_cases hlt : i < l.length
  · rw [chunk_left (by rw [h.1]; exact Nat.mul_le_mul_right _ hlt), List.getElem_append_left hlt]
    exact h.2 i hlt
  · obtain rfl : i = l.length := by simp at hi; omega
    rw [chunk_last (s := size) h.1 hd, List.getElem_append_right (Nat.le_refl _)]
    simpa using hx
/-- a pair, as it lies in two cells -/
abbrev PairB := List UInt8 × List UInt8
def rPair : Reader PairB := fun w cs p => ∃ kv vv, cs = [kv, vv] ∧ Bytes w kv p.1 ∧ Bytes w vv p.2
theorem rPair_stays : rPair.Stays := fun _ _ _ _ hb ⟨kv, vv, e, h1, h2⟩ => ⟨kv, vv, e, h1.ext hb, h2.ext hb⟩
theorem pairsTy : SliceTy Try.prog 62 79 (.agg #[.slice none 0 0, .slice none 0 0]) 2 48 := SliceTy.mk' Try.underlying62 (by kernel_rfl) rfl (by decide)
theorem opTy : AggTy Try.prog 34 3 := ⟨⟨_, Try.underlying34, rfl⟩, by kernel_rfl⟩
theorem zOp : (Try.prog.info? 34).bind (·.zero) = some (.agg #[.bool false, .slice none 0 0, .slice none 0 0]) := by kernel_rfl
theorem mapTy : Try.prog.underlying 74 = some (.map 9 24) := Try.underlying74
theorem mapOpTy : Try.prog.underlying 80 = some (.map 9 34) := Try.underlying80
theorem zBytesV (w : World) : (zeroValue 24).run Try.prog w = .ok (.slice none 0 0) w := by kernel_rfl
theorem zOpV (w : World) : (zeroValue 34).run Try.prog w = .ok (.agg #[.bool false, .slice none 0 0, .slice none 0 0]) w := by kernel_rfl
/-- the values of a map are bytes that lay there -/
def TOk (w : World) (T : PL (Value × List UInt8)) (S : PL (List UInt8)) : Prop := mapP (·.2) T = S ∧ ∀ p ∈ T, Bytes w p.2.1 p.2.2 ∧ p.1.length ≤ maxLen ∧ p.2.2.length ≤ 1000000
theorem TOk.nil (w : World) : TOk w [] [] := ⟨rfl, fun p h => by cases h⟩
theorem mem_setP {α : Type} {P : PL α} {k : Ky} {o : Option α} {p : Ky × α} (h : p ∈ setP P k o) : p ∈ P ∨ ∃ v, o = some v ∧ p = (k, v) := by
  cases o with
  | none => exact .inl (List.mem_filter.1 h).1
  | some v =>
    rcases mem_insP.1 h with rfl | h
    · exact .inr ⟨v, rfl, rfl⟩
    · exact .inl (List.mem_filter.1 h).1
theorem TOk.put {w : World} {T : PL (Value × List UInt8)} {S : PL (List UInt8)} (h : TOk w T S) {o : Rec} {u : Value} (hd : o.del = false) (hu : Bytes w u o.value) (hk : o.key.length ≤ maxLen) (hv : o.value.length ≤ 1000000) : TOk w (setP T o.key (some (u, o.value))) (setP S o.key o.left) := by
  refine ⟨?_, fun p hp => ?_⟩
  · rw [mapP_set, h.1]
    unfold Rec.left
    rw [hd]
    rfl
  · rcases mem_setP hp with h' | ⟨v, e, rfl⟩
    · exact h.2 p h'
    · injection e with e
      subst e
      exact ⟨hu, hk, hv⟩
theorem TOk.del {w : World} {T : PL (Value × List UInt8)} {S : PL (List UInt8)} (h : TOk w T S) {o : Rec} (hd : o.del = true) : TOk w (setP T o.key none) (setP S o.key o.left) := by
  refine ⟨?_, fun p hp => ?_⟩
  · rw [mapP_set, h.1]
    unfold Rec.left
    rw [hd]
    rfl
  · rcases mem_setP hp with h' | ⟨v, e, _⟩
    · exact h.2 p h'
    · cases e
theorem rises_of_map {α β : Type} {f : α → β} {T : PL α} (h : Rises (mapP f T)) : Rises T := (List.pairwise_map.1 h)
theorem TOk.rises {w : World} {T : PL (Value × List UInt8)} {S : PL (List UInt8)} (h : TOk w T S) (hS : Rises S) : Rises T := rises_of_map (by rw [h.1]; exact hS)
theorem doneP_snoc (S : PL (List UInt8)) {l : List Rec} {k : Nat} {o : Rec} (h : l[k]? = some o) : doneP S (l.take (k + 1)) = setP (doneP S (l.take k)) o.key o.left := by
  obtain ⟨hk, hx⟩ := List.getElem?_eq_some_iff.1 h
  rw [List.take_succ_eq_append_getElem hk, hx, doneP_append]
  rfl
theorem liveP_snoc {LL : List (List Rec)} {k : Nat} {l : List Rec} (h : LL[k]? = some l) : liveP (LL.take (k + 1)) = doneP (liveP (LL.take k)) l := by
  obtain ⟨hk, hx⟩ := List.getElem?_eq_some_iff.1 h
  rw [List.take_succ_eq_append_getElem hk, hx]
  unfold liveP
  rw [List.foldl_append]
  rfl
theorem Bytes_max {w : World} {v : Value} {l : List UInt8} (h : Bytes w v l) : l.length ≤ maxLen := by
  obtain ⟨_, _, _, _, h1, h2, h3, _⟩ := h
  omega
theorem MapV.len {α : Type} {w : World} {b N : Nat} {T : PL (Value × α)} (h : MapV w b T N) : T.length ≤ N := by
  obtain ⟨es, clock, _, _, hs, hD⟩ := h
  have e : T.map encE = (es.toList.map (Go.WideElems.rg Try.prog 9 RV)).foldr DataW.insert [] := DataW.map.inj hD
  have := congrArg List.length e
  simp only [List.length_map, length_sorted, Array.length_toList] at this
  omega
theorem MapV.below {α : Type} {w w' : World} {b N n : Nat} {T : PL (Value × α)} (h : MapV w b T N) (hb : Below n w w') (hn : b < n) : MapV w' b T N := by
  obtain ⟨es, clock, h1, h2⟩ := h
  exact ⟨es, clock, (hb.block b hn).trans h1, h2⟩
end Go.Mun
