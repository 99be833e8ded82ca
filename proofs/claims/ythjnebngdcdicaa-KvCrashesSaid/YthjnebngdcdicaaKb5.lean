/- What the KV laws use of the parts that are shared, in one text (eseat.py). -/
import Derived.Test.YthjnebngdcdicaaKb4
import Derived.Laws.OwnMore
import Derived.Deep.Cut
import Derived.Deep.RegionHeld3
-- NetSet
namespace Go.Mun
open Go Go.RowKit Go.Proofs

section
variable {P : Program} {t e : TypeId} {z : Value} {size bytes : Nat}
theorem cutp_l (hT : SliceTy P t e z size bytes) (A : Option Addr) (n c : Nat) {kl : IntKind} {lo' : Int} {lo : Nat} (hlo : lo' = lo) (h1 : lo ≤ n) (hc : n ≤ c) :
    ∃ A' : Option Addr, (∀ w, (Instr.slice t (.slice A n c) (some (.int kl lo')) none none).run P w = .ok (.slice A' (n - lo) (c - lo)) w) ∧
      (∀ w xs, xs.length = n * size → Rd w A xs → Rd w A' (xs.drop (lo * size))) := by
  subst hlo
  refine ⟨if c = lo then A else A.map (·.add (lo * size)), fun w => ?_, fun w xs hx h => ?_⟩
  · rw [run_slice_l w t A n c hT.under kl lo (by omega) (by omega), hT.sizeOf_elem]
    simp [Result.andThen, sliced]
  · by_cases h0 : c = lo
    · rw [if_pos h0, List.drop_eq_nil_of_le (by rw [hx]; exact Nat.mul_le_mul_right _ (by omega))]
      exact Rd.nil _ _
    · rw [if_neg h0]
      exact h.drop _
theorem cutp_h (hT : SliceTy P t e z size bytes) (A : Option Addr) (n c : Nat) {kh : IntKind} {hi' : Int} {hi : Nat} (hhi : hi' = hi) (h2 : hi ≤ c) :
    ∀ w, (Instr.slice t (.slice A n c) none (some (.int kh hi')) none).run P w = .ok (.slice A hi c) w := by
  subst hhi
  intro w
  rw [run_slice_h w t A n c hT.under kh hi (by omega) (by omega), hT.sizeOf_elem]
  have e : ∀ A : Option Addr, A.map (·.add 0) = A := fun A => by cases A <;> simp [Addr.add]
  simp [Result.andThen, sliced, e]
end
theorem row_sl {w : World} {base : Nat} {e : TypeId} {n : Nat} {v : Value} {l : List UInt8} (h : w.ownsRow base e 1 v n (bv l)) : ∃ A c, v = .slice A n c ∧ Bytes w (.slice A n c) l := by
  obtain ⟨A, m, c, rfl, h1, h2⟩ := Bytes.own h
  have hn : l.length = n := by have := h.1; rw [bv_length] at this; omega
  obtain rfl : m = n := by omega
  exact ⟨A, c, rfl, A, m, c, rfl, h1, h2⟩
theorem own_blk {w : World} {base : Nat} {e : TypeId} {size n m c : Nat} {ad : Addr} {xs : List Value} (h : w.ownsRow base e size (.slice (some ad) m c) n xs) : base ≤ ad.block ∧ ad.block < w.heap.size := by
  have hlt := h.lt
  rcases h.2 with ⟨h', _⟩ | ⟨g, cap, cur, h', hb, _⟩
  · cases h'
  · injection h' with h1 _ _
    injection h1 with h1
    subst h1
    exact hlt g rfl
theorem chunk_take {xs : List Value} {s i m : Nat} (h : i < m) : chunk (xs.take (m * s)) s i = chunk xs s i := by
  have h2 : (i + 1) * s ≤ m * s := Nat.mul_le_mul_right _ h
  rw [Nat.add_mul, Nat.one_mul] at h2
  unfold chunk
  apply List.ext_getElem?
  intro j
  rw [List.getElem?_take, List.getElem?_take, List.getElem?_drop, List.getElem?_drop, List.getElem?_take]
  by_cases hj : j < s
  · rw [if_pos hj, if_pos hj, if_pos (by omega)]
  · rw [if_neg hj, if_neg hj]
theorem chunk_drop (xs : List Value) (s i m : Nat) : chunk (xs.drop (m * s)) s i = chunk xs s (m + i) := by
  unfold chunk
  rw [List.drop_drop, Nat.add_mul]
theorem RowC.take {α : Type} {size : Nat} {R : Reader α} {w : World} {cs : List Value} {l : List α} (h : RowC size R w cs l) {m : Nat} (hm : m ≤ l.length) : RowC size R w (cs.take (m * size)) (l.take m) := by
  refine ⟨?_, fun i hi => ?_⟩
  · rw [List.length_take, List.length_take, h.1, Nat.min_eq_left hm, Nat.min_eq_left (Nat.mul_le_mul_right _ hm)]
  · rw [List.length_take] at hi
    rw [chunk_take (by omega), List.getElem_take]
    exact h.2 i (by omega)
theorem RowC.drop {α : Type} {size : Nat} {R : Reader α} {w : World} {cs : List Value} {l : List α} (h : RowC size R w cs l) {m : Nat} (_hm : m ≤ l.length) : RowC size R w (cs.drop (m * size)) (l.drop m) := by
  refine ⟨?_, fun i hi => ?_⟩
  · rw [List.length_drop, List.length_drop, h.1, Nat.sub_mul]
  · rw [List.length_drop] at hi
    rw [chunk_drop, List.getElem_drop]
    exact h.2 (m + i) (by omega)
theorem chunk_right {a b : List Value} {s i m : Nat} (h : a.length = m * s) : chunk (a ++ b) s (m + i) = chunk b s i := by
  unfold chunk
  rw [Nat.add_mul, ← h, ← List.drop_drop, List.drop_left]
theorem RowC.append {α : Type} {size : Nat} {R : Reader α} {w : World} {cs ds : List Value} {l m : List α} (h : RowC size R w cs l) (k : RowC size R w ds m) : RowC size R w (cs ++ ds) (l ++ m) := by
  refine ⟨by rw [List.length_append, List.length_append, h.1, k.1, Nat.add_mul], fun i hi => ?_⟩
  by_cases hlt : i < l.length
  · rw [chunk_left (by rw [h.1]; exact Nat.mul_le_mul_right _ hlt), List.getElem_append_left hlt]
    exact h.2 i hlt
  · obtain ⟨j, rfl⟩ : ∃ j, i = l.length + j := ⟨i - l.length, by omega⟩
    rw [List.length_append] at hi
    rw [chunk_right h.1]
    have hj : j < m.length := by omega
    have e : (l ++ m)[l.length + j] = m[j] := by rw [List.getElem_append_right (by omega)]; simp
    rw [e]
    exact k.2 j hj
theorem RowC.ext {α : Type} {size : Nat} {R : Reader α} (hR : R.Stays) {w w' : World} {cs : List Value} {l : List α} (h : RowC size R w cs l) (hb : Below w.heap.size w w') : RowC size R w' cs l := ⟨h.1, fun i hi => hR _ _ _ _ hb (h.2 i hi)⟩
theorem RowC.one {w : World} {ak av : Value} {key val : List UInt8} (h1 : Bytes w ak key) (h2 : Bytes w av val) : RowC 2 rPair w [ak, av] [(key, val)] := by
  have := (RowC.nil 2 rPair w).more (ds := [ak, av]) (x := (key, val)) rfl ⟨ak, av, rfl, h1, h2⟩
  simpa using this
theorem pair_cells {w : World} {xs : List Value} {P : PL (List UInt8)} (h : RowC 2 rPair w xs P) : ∀ u ∈ xs, u.oneCell' = true := by
  intro u hu
  obtain ⟨i, hi, e⟩ := List.mem_iff_getElem.1 hu
  have hl : i / 2 < P.length := by have := h.1; omega
  obtain ⟨kv, vv, e2, h1, h2⟩ := h.2 (i / 2) hl
  have hx : (chunk xs 2 (i / 2))[i % 2]? = some u := by
    unfold chunk
    rw [List.getElem?_take, if_pos (Nat.mod_lt _ (by omega)), List.getElem?_drop, show i / 2 * 2 + i % 2 = i from by omega, List.getElem?_eq_getElem hi, e]
  rw [e2] at hx
  obtain ⟨_, _, _, ek, _⟩ := h1
  obtain ⟨_, _, _, ev, _⟩ := h2
  have h01 : i % 2 = 0 ∨ i % 2 = 1 := by omega
  rcases h01 with h0 | h0
  · rw [h0] at hx
    injection hx with hx
    rw [← hx, ek]
    rfl
  · rw [h0] at hx
    injection hx with hx
    rw [← hx, ev]
    rfl
/-- where a change comes to stand -/
theorem set_at {α : Type} {P : PL α} (hP : Rises P) {k tail : Nat} {key : Ky} (o : Option α) (hk : k ≤ P.length) (hlo : ∀ p ∈ P.take k, ltB p.1 key = true) (hhi : ∀ p, P[k]? = some p → ltB p.1 key = false)
    (ht : (tail = k ∧ ∀ p, P[k]? = some p → p.1 ≠ key) ∨ (tail = k + 1 ∧ ∃ p, P[k]? = some p ∧ p.1 = key)) : setP P key o = P.take k ++ ((o.map fun v => (key, v)).toList ++ P.drop tail) := by
  have hge : ∀ p ∈ P.drop (k + 1), ∀ q, P[k]? = some q → ltB q.1 p.1 = true := by
    intro p hp q hq
    obtain ⟨hk', hq'⟩ := List.getElem?_eq_some_iff.1 hq
    have hd : P.drop k = q :: P.drop (k + 1) := by rw [List.drop_eq_getElem_cons hk', hq']
    have h1 : Rises (P.drop k) := List.Pairwise.sublist (List.drop_sublist _ _) hP
    rw [hd] at h1
    exact (List.pairwise_cons.1 h1).1 p hp
  rcases ht with ⟨rfl, hne⟩ | ⟨rfl, p0, hp0, rfl⟩
  · have hB : ∀ p ∈ P.drop tail, ltB key p.1 = true := by
      intro p hp
      cases hq : P[tail]? with
      | none =>
        rw [List.drop_eq_nil_of_le (List.getElem?_eq_none_iff.1 hq)] at hp
        cases hp
      | some q =>
        have h1 : ltB key q.1 = true := by
          rcases ltB_total q.1 key (hne q hq) with h | h
          · rw [hhi q hq] at h; cases h
          · exact h
        obtain ⟨hk', hq'⟩ := List.getElem?_eq_some_iff.1 hq
        rw [List.drop_eq_getElem_cons hk', hq'] at hp
        rcases List.mem_cons.1 hp with rfl | hp
        · exact h1
        · exact ltB_trans h1 (hge p hp q hq)
    have := setP_split (o := o) hlo hB
    rwa [List.take_append_drop] at this
  · obtain ⟨hk', hq'⟩ := List.getElem?_eq_some_iff.1 hp0
    have hd : P.drop k = (p0.1, p0.2) :: P.drop (k + 1) := by rw [List.drop_eq_getElem_cons hk', hq']
    have := setP_at (u := p0.2) (o := o) hlo (fun p hp => hge p hp p0 hp0)
    rwa [← hd, List.take_append_drop] at this
/-- what each operation of the region writes -/
def SC2 (ad1 : Addr) (n c k b : Nat) (x1 xk : Value) (pk key : List UInt8) (res : Bool) : Nat → Value → World → Prop
  | 0, v, _ => v = .int .i64 (k : Nat)
  | 1, v, _ => v = .slice (some ad1) n c
  | 2, v, _ => v = .int .i64 (n : Nat)
  | 3, v, _ => v = .bool true
  | 4, v, _ => v = .bool true
  | 5, v, _ => v = .slice (some ad1) n c
  | 6, v, _ => v = .int .i64 (k : Nat)
  | 7, v, _ => v = .pointer (some (ad1.add (k * 2)))
  | 8, v, _ => v = .pointer (some (ad1.add (k * 2)))
  | 9, v, _ => v = x1
  | 10, v, _ => v = .string ⟨pk.toArray⟩
  | 11, v, _ => v = .pointer (some ⟨b, 1, none⟩)
  | 12, v, _ => v = xk
  | 13, v, _ => v = .string ⟨key.toArray⟩
  | 14, v, _ => v = .bool res
  | _, v, _ => v = .bool res
theorem SC2_stays (ad1 : Addr) (n c k b : Nat) (x1 xk : Value) (pk key : List UInt8) (res : Bool) : ∀ i v (wa wb : World), Below wa.heap.size wa wb → SC2 ad1 n c k b x1 xk pk key res i v wa → SC2 ad1 n c k b x1 xk pk key res i v wb
  | 0, _, _, _, _, h => h
  | 1, _, _, _, _, h => h
  | 2, _, _, _, _, h => h
  | 3, _, _, _, _, h => h
  | 4, _, _, _, _, h => h
  | 5, _, _, _, _, h => h
  | 6, _, _, _, _, h => h
  | 7, _, _, _, _, h => h
  | 8, _, _, _, _, h => h
  | 9, _, _, _, _, h => h
  | 10, _, _, _, _, h => h
  | 11, _, _, _, _, h => h
  | 12, _, _, _, _, h => h
  | 13, _, _, _, _, h => h
  | 14, _, _, _, _, h => h
  | _ + 15, _, _, _, _, h => h
/-- what each operation of the region writes -/
def SC2o (A : Option Addr) (n c k : Nat) : Nat → Value → World → Prop
  | 0, v, _ => v = .int .i64 (k : Nat)
  | 1, v, _ => v = .slice A n c
  | 2, v, _ => v = .int .i64 (n : Nat)
  | 3, v, _ => v = .bool false
  | 4, v, _ => v = .bool false
  | 5, _, _ => True
  | 6, _, _ => True
  | 7, _, _ => True
  | 8, _, _ => True
  | 9, _, _ => True
  | 10, _, _ => True
  | 11, _, _ => True
  | 12, _, _ => True
  | 13, _, _ => True
  | 14, _, _ => True
  | _, v, _ => v = .bool false
theorem SC2o_stays (A : Option Addr) (n c k : Nat) : ∀ i v (wa wb : World), Below wa.heap.size wa wb → SC2o A n c k i v wa → SC2o A n c k i v wb
  | 0, _, _, _, _, h => h
  | 1, _, _, _, _, h => h
  | 2, _, _, _, _, h => h
  | 3, _, _, _, _, h => h
  | 4, _, _, _, _, h => h
  | 5, _, _, _, _, h => h
  | 6, _, _, _, _, h => h
  | 7, _, _, _, _, h => h
  | 8, _, _, _, _, h => h
  | 9, _, _, _, _, h => h
  | 10, _, _, _, _, h => h
  | 11, _, _, _, _, h => h
  | 12, _, _, _, _, h => h
  | 13, _, _, _, _, h => h
  | 14, _, _, _, _, h => h
  | _ + 15, _, _, _, _, h => h
/-- what each operation of the region writes -/
def SC5 (ad1 : Addr) (n c k b : Nat) (x1 xk : Value) (pk key : List UInt8) (res : Bool) : Nat → Value → World → Prop
  | 0, v, _ => v = .int .i64 (k : Nat)
  | 1, v, _ => v = .slice (some ad1) n c
  | 2, v, _ => v = .int .i64 (n : Nat)
  | 3, v, _ => v = .bool true
  | 4, v, _ => v = .bool true
  | 5, v, _ => v = .slice (some ad1) n c
  | 6, v, _ => v = .int .i64 (k : Nat)
  | 7, v, _ => v = .pointer (some (ad1.add (k * 2)))
  | 8, v, _ => v = .pointer (some (ad1.add (k * 2)))
  | 9, v, _ => v = x1
  | 10, v, _ => v = .string ⟨pk.toArray⟩
  | 11, v, _ => v = .pointer (some ⟨b, 1, none⟩)
  | 12, v, _ => v = xk
  | 13, v, _ => v = .string ⟨key.toArray⟩
  | 14, v, _ => v = .bool res
  | _, v, _ => v = .bool res
theorem SC5_stays (ad1 : Addr) (n c k b : Nat) (x1 xk : Value) (pk key : List UInt8) (res : Bool) : ∀ i v (wa wb : World), Below wa.heap.size wa wb → SC5 ad1 n c k b x1 xk pk key res i v wa → SC5 ad1 n c k b x1 xk pk key res i v wb
  | 0, _, _, _, _, h => h
  | 1, _, _, _, _, h => h
  | 2, _, _, _, _, h => h
  | 3, _, _, _, _, h => h
  | 4, _, _, _, _, h => h
  | 5, _, _, _, _, h => h
  | 6, _, _, _, _, h => h
  | 7, _, _, _, _, h => h
  | 8, _, _, _, _, h => h
  | 9, _, _, _, _, h => h
  | 10, _, _, _, _, h => h
  | 11, _, _, _, _, h => h
  | 12, _, _, _, _, h => h
  | 13, _, _, _, _, h => h
  | 14, _, _, _, _, h => h
  | _ + 15, _, _, _, _, h => h
/-- what each operation of the region writes -/
def SC5o (A : Option Addr) (n c k : Nat) : Nat → Value → World → Prop
  | 0, v, _ => v = .int .i64 (k : Nat)
  | 1, v, _ => v = .slice A n c
  | 2, v, _ => v = .int .i64 (n : Nat)
  | 3, v, _ => v = .bool false
  | 4, v, _ => v = .bool false
  | 5, _, _ => True
  | 6, _, _ => True
  | 7, _, _ => True
  | 8, _, _ => True
  | 9, _, _ => True
  | 10, _, _ => True
  | 11, _, _ => True
  | 12, _, _ => True
  | 13, _, _ => True
  | 14, _, _ => True
  | _, v, _ => v = .bool false
theorem SC5o_stays (A : Option Addr) (n c k : Nat) : ∀ i v (wa wb : World), Below wa.heap.size wa wb → SC5o A n c k i v wa → SC5o A n c k i v wb
  | 0, _, _, _, _, h => h
  | 1, _, _, _, _, h => h
  | 2, _, _, _, _, h => h
  | 3, _, _, _, _, h => h
  | 4, _, _, _, _, h => h
  | 5, _, _, _, _, h => h
  | 6, _, _, _, _, h => h
  | 7, _, _, _, _, h => h
  | 8, _, _, _, _, h => h
  | 9, _, _, _, _, h => h
  | 10, _, _, _, _, h => h
  | 11, _, _, _, _, h => h
  | 12, _, _, _, _, h => h
  | 13, _, _, _, _, h => h
  | 14, _, _, _, _, h => h
  | _ + 15, _, _, _, _, h => h
/-- what each operation of the region writes -/
def SSe (b q nk cK nv cV : Nat) (AK AV : Option Addr) (vo : Value) (key val : List UInt8) : Nat → Value → World → Prop
  | 0, v, _ => v = vo
  | 1, v, _ => v = .pointer (some ⟨b, 1, none⟩)
  | 2, v, _ => v = .slice AK nk cK
  | 3, v, w => ∃ A' c', v = .slice A' nk c' ∧ Bytes w (.slice A' nk c') key ∧ ∀ ad, A' = some ad → q ≤ ad.block ∧ ad.block < w.heap.size
  | 4, v, _ => v = .pointer (some ⟨b, 2, none⟩)
  | 5, v, _ => v = .slice AV nv cV
  | 6, v, w => ∃ A' c', v = .slice A' nv c' ∧ Bytes w (.slice A' nv c') val ∧ ∀ ad, A' = some ad → q ≤ ad.block ∧ ad.block < w.heap.size
  | 7, v, w => ∃ A' c' B' d', v = .agg #[.slice A' nk c', .slice B' nv d'] ∧ Bytes w (.slice A' nk c') key ∧ Bytes w (.slice B' nv d') val ∧ (∀ ad, A' = some ad → q ≤ ad.block ∧ ad.block < w.heap.size) ∧ ∀ ad, B' = some ad → q ≤ ad.block ∧ ad.block < w.heap.size
  | 8, v, w => ∃ g A' c' B' d', v = .slice (some ⟨g, 0, none⟩) 1 1 ∧ q ≤ g ∧ Blk w g 51 #[.slice A' nk c', .slice B' nv d'] ∧ Bytes w (.slice A' nk c') key ∧ Bytes w (.slice B' nv d') val ∧ (∀ ad, A' = some ad → q ≤ ad.block ∧ ad.block < w.heap.size) ∧ ∀ ad, B' = some ad → q ≤ ad.block ∧ ad.block < w.heap.size
  | 9, _, _ => True
  | _, _, _ => True
theorem SSe_stays (b q nk cK nv cV : Nat) (AK AV : Option Addr) (vo : Value) (key val : List UInt8) (hvq : ∀ x, vo.ownBlock = some x → x < q) : ∀ i v (wa wb : World), wa.grownBy wb vo.ownBlock → SSe b q nk cK nv cV AK AV vo key val i v wa → SSe b q nk cK nv cV AK AV vo key val i v wb
  | 0, _, _, _, _, h => h
  | 1, _, _, _, _, h => h
  | 2, _, _, _, _, h => h
  | 3, _, _, _, hb, ⟨A', c', e, hy, hq⟩ => ⟨A', c', e, hy.grownB hb (fun ad e' => fun e2 => by have := (hq ad e').1; have := hvq _ e2.symm; omega), fun ad e' => ⟨(hq ad e').1, Nat.lt_of_lt_of_le (hq ad e').2 hb.size⟩⟩
  | 4, _, _, _, _, h => h
  | 5, _, _, _, _, h => h
  | 6, _, _, _, hb, ⟨A', c', e, hy, hq⟩ => ⟨A', c', e, hy.grownB hb (fun ad e' => fun e2 => by have := (hq ad e').1; have := hvq _ e2.symm; omega), fun ad e' => ⟨(hq ad e').1, Nat.lt_of_lt_of_le (hq ad e').2 hb.size⟩⟩
  | 7, _, _, _, hb, ⟨A', c', B', d', e, hy, hz, hq, hr⟩ => ⟨A', c', B', d', e, hy.grownB hb (fun ad e' => fun e2 => by have := (hq ad e').1; have := hvq _ e2.symm; omega), hz.grownB hb (fun ad e' => fun e2 => by have := (hr ad e').1; have := hvq _ e2.symm; omega), fun ad e' => ⟨(hq ad e').1, Nat.lt_of_lt_of_le (hq ad e').2 hb.size⟩, fun ad e' => ⟨(hr ad e').1, Nat.lt_of_lt_of_le (hr ad e').2 hb.size⟩⟩
  | 8, _, _, _, hb, ⟨g, A', c', B', d', e, hg, hx, hy, hz, hq, hr⟩ => ⟨g, A', c', B', d', e, hg, hx.grown hb (fun e2 => by have := hvq _ e2.symm; omega), hy.grownB hb (fun ad e' => fun e2 => by have := (hq ad e').1; have := hvq _ e2.symm; omega), hz.grownB hb (fun ad e' => fun e2 => by have := (hr ad e').1; have := hvq _ e2.symm; omega), fun ad e' => ⟨(hq ad e').1, Nat.lt_of_lt_of_le (hq ad e').2 hb.size⟩, fun ad e' => ⟨(hr ad e').1, Nat.lt_of_lt_of_le (hr ad e').2 hb.size⟩⟩
  | 9, _, _, _, _, h => h
  | _ + 10, _, _, _, _, h => h
/-- the row with the pair behind it -/
def OwnP (base k nk nv : Nat) (xs : List Value) (key val : List UInt8) (v : Value) (w : World) : Prop := ∃ A' c' B' d', w.ownsRow base 51 2 v (k + 1) (xs ++ [.slice A' nk c', .slice B' nv d']) ∧ Bytes w (.slice A' nk c') key ∧ Bytes w (.slice B' nv d') val ∧ (∀ ad, A' = some ad → v.ownBlock ≠ some ad.block) ∧ ∀ ad, B' = some ad → v.ownBlock ≠ some ad.block
theorem apart_blk {v vo : Value} {m q g : Nat} (hat : v.ownBlock = vo.ownBlock ∨ v.ownBlock = some m) (hlo : ∀ x, vo.ownBlock = some x → x < q) (hg : q ≤ g ∧ g < m) : v.ownBlock ≠ some g := by
  intro e
  rcases hat with h | h
  · have := hlo g (h ▸ e)
    omega
  · rw [h] at e
    injection e with e
    omega
theorem grown_below {w w' : World} {r : Option Nat} {n : Nat} (hg : w.grownBy w' r) (hr : ∀ x, r = some x → n ≤ x) (hn : n ≤ w.heap.size) : Below n w w' :=
  ⟨hg.os, hg.tape, hg.output, hg.size, fun k hk => hg.block k (by omega) (fun e => by have := hr k e.symm; omega)⟩
/-- how far it has come -/
def JSe (base q k nk nv : Nat) (xs : List Value) (vo : Value) (key val : List UInt8) (L : Nat → Bool) (V : Nat → Value) (w : World) : Prop :=
  (L 9 = false → w.ownsRow base 51 2 vo k xs) ∧ (L 9 = true → OwnP base k nk nv xs key val (V 9) w) ∧ (L 10 = true → OwnP base k nk nv xs key val (V 10) w) ∧ q ≤ w.heap.size
theorem JSe_new (base q k nk nv : Nat) (xs : List Value) (vo : Value) (key val : List UInt8) {L : Nat → Bool} {V : Nat → Value} {w : World} {i : Nat} {v : Value} (h9 : L 9 = false) (h10 : L 10 = false) (i9 : (9 : Nat) ≠ i) (i10 : (10 : Nat) ≠ i) (ho : w.ownsRow base 51 2 vo k xs) (hq : q ≤ w.heap.size) : JSe base q k nk nv xs vo key val (updL L i) (upd V i v) w := by
  unfold JSe
  rw [updL_ne i9, updL_ne i10, h9, h10]
  exact ⟨fun _ => ho, fun e => (by cases e), fun e => (by cases e), hq⟩
theorem JSe_nine (base q k nk nv : Nat) (xs : List Value) (vo : Value) (key val : List UInt8) {L : Nat → Bool} {V : Nat → Value} {w : World} {v : Value} (h10 : L 10 = false) (ho : OwnP base k nk nv xs key val v w) (hq : q ≤ w.heap.size) : JSe base q k nk nv xs vo key val (updL L 9) (upd V 9 v) w := by
  unfold JSe
  rw [updL_same, updL_ne (by decide), h10, upd_same]
  exact ⟨fun e => (by cases e), fun _ => ho, fun e => (by cases e), hq⟩
theorem JSe_ten (base q k nk nv : Nat) (xs : List Value) (vo : Value) (key val : List UInt8) {L : Nat → Bool} {V : Nat → Value} {w : World} (h9 : L 9 = true) (ho : OwnP base k nk nv xs key val (V 9) w) (hq : q ≤ w.heap.size) : JSe base q k nk nv xs vo key val (updL L 10) (upd V 10 (V 9)) w := by
  unfold JSe
  rw [updL_same, updL_ne (by decide), h9, upd_same, upd_ne (by decide)]
  exact ⟨fun e => (by cases e), fun _ => ho, fun _ => ho, hq⟩
theorem JSe_far (base q kk nk nv : Nat) (xs : List Value) (vo : Value) (key val : List UInt8) {L : Nat → Bool} {V : Nat → Value} {w : World} (hJ : JSe base q kk nk nv xs vo key val L V w) {k : Nat} {v : Value} (h9 : (9 : Nat) ≠ k) (h10 : (10 : Nat) ≠ k) : JSe base q kk nk nv xs vo key val (updL L k) (upd V k v) w := by
  unfold JSe at hJ ⊢
  simp only [updL_ne h9, updL_ne h10, upd_ne h9, upd_ne h10]
  exact hJ

set_option maxRecDepth 100000 in
set_option maxHeartbeats 16000000 in
theorem setPair_any (va : Value) (P : PL (List UInt8)) (o : Rec) (AK AV : Option Addr) (nk cK nv cV : Nat) (w : World) (h : SliceOf 2 rPair w va P) (hP : Rises P) (hl : P.length ≤ 100000) (hk : Bytes w (.slice AK nk cK) o.key) (hv : Bytes w (.slice AV nv cV) o.value) (hkl : o.key.length ≤ 1000000) (hvl : o.value.length ≤ 1000000) :
    Calls Try.prog 38 #[va, .agg #[.bool o.del, .slice AK nk cK, .slice AV nv cV]] w fun e w' => ∃ v', e = .returned v' ∧ SliceOf 2 rPair w' v' (setP P o.key o.left) ∧ Below w.heap.size w w' := by
  obtain ⟨A, n, c, xs, rfl, g1, g2, g3, g4, g5, g6⟩ := h
  unfold maxLen at g4
  have HXS := Lib.hid (show RowC 2 rPair w xs P from ⟨by rw [g1]; exact g2, g6⟩)
  have hTP := pairsTy
  have hTB := bytesTyR
  have HS := Lib.hid (fun (w : World) (A : Option Addr) (n c : Nat) (l : List UInt8) (h : Bytes w (.slice A n c) l) => run_str (P := Try.prog) (src := 22) (dst := 9) h Try.underlying22 Try.underlying5 Try.underlying9)
  have HNK := Lib.hid (show o.key.length = nk by obtain ⟨_, _, _, e, h1, _⟩ := hk; injection e with e1 e2 e3; omega)
  have HNV := Lib.hid (show o.value.length = nv by obtain ⟨_, _, _, e, h1, _⟩ := hv; injection e with e1 e2 e3; omega)
  have HPA := Lib.hid (fun (k : Nat) (hk : k < n) (w' : World) (hb : Below w.heap.size w w') => pair_at (g5.ext hb) g1 g2 g6 hk)
  have HKB := Lib.hid (fun (w' : World) (hb : Below w.heap.size w w') => hk.ext hb)
  have HVB := Lib.hid (fun (w' : World) (hb : Below w.heap.size w w') => hv.ext hb)
  have HG5 := Lib.hid (And.intro g2 g5)
  have HPL := Lib.hid g1
  have hn1 : n ≤ 100000 := by omega
  have hnk : nk ≤ 1000000 := by rw [← HNK.out]; exact hkl
  have hnv : nv ≤ 1000000 := by rw [← HNV.out]; exact hvl
  clear g1 g2 g5 g6 hk hv hkl hvl hl
  obtain ⟨dl, hdd⟩ : ∃ dl, dl = o.del := ⟨_, rfl⟩
  rw [← hdd]
  have HDD := Lib.hid hdd.symm
  clear hdd
  go_enter Try.func38, Try.ntmps38
  go_wp2_with (first
    | ((with_reducible refine gd_box ?_); refine wpList_box_agg rfl _ (.tmp 1) rfl rfl ?_; intro w1 hx1 hb1 hl1)
    | fail)
  have HY1 := Lib.hid (fun (w' : World) (hb : Below w1.heap.size w1 w') => (hx1.ext hb).cellv (i := 1) rfl)
  have HY2 := Lib.hid (fun (w' : World) (hb : Below w1.heap.size w1 w') => (hx1.ext hb).cellv (i := 2) rfl)
  have HY0 := Lib.hid (fun (w' : World) (hb : Below w1.heap.size w1 w') => (hx1.ext hb).cellv (i := 0) rfl)
  go_loopw [5] (fun iv wr => ∃ (k : Nat), k ≤ n ∧ iv = .int .i64 k ∧ (∀ p ∈ P.take k, ltB p.1 o.key = true) ∧ Below w1.heap.size w1 wr) (fun iv _ => n - (RowKit.intOf iv).toNat)
  case atStart => exact ⟨0, Nat.zero_le _, rfl, (fun p hp => by cases hp), Below.refl _ _⟩
  case round =>
    obtain ⟨k, hk, rfl, hlo, hBr⟩ := hrel
    have hBw := below_step hb1 hBr
    have b1 : (0 : Int) ≤ k := by omega
    by_cases hlt : k < n
    · obtain ⟨ad1, ⟨pk, pv⟩, kv1, vv1, rfl, p0, p1, hp, y1, y2⟩ := HPA.out k hlt wr hBw
      simp only at y1 y2
      replace y1 := y1.ext hBw
      obtain ⟨AK1, nk1, cK1, e1⟩ : ∃ A n c, kv1 = .slice A n c := by obtain ⟨A, n, c, e, _⟩ := y1; exact ⟨A, n, c, e⟩
      subst e1
      clear y2 p1
      have b2 : (k : Int) < n := by omega
      have f1 : decide ((k : Int) < n) = true := decide_eq_true b2
      obtain ⟨res, hres⟩ : ∃ res, res = ltB pk o.key := ⟨_, rfl⟩
      have HR := Lib.hid (show Op.bytesLess pk o.key = res by rw [less_eq, hres])
      replace hres := Lib.hid hres
      have HP0 := Lib.hid (fun (w' : World) (hb : Below wr.drew.heap.size wr.drew w') => cell_ext hb (cell_drew (show wr.cell? _ = _ from p0)))
      have HY1d := Lib.hid (fun (w' : World) (hb : Below wr.drew.heap.size wr.drew w') => HY1.out _ (below_step (below_drew hBr) hb))
      have HB1 := Lib.hid (fun (w' : World) (hb : Below wr.drew.heap.size wr.drew w') => (show Bytes wr.drew _ _ from y1).ext hb)
      have HB2 := Lib.hid (fun (w' : World) (hb : Below wr.drew.heap.size wr.drew w') => HKB.out _ (below_step (below_drew hBw) hb))
      go_upto_region 2 with (fail)
      refine wp_region_each (by kernel_rfl) (by kernel_rfl) (by kernel_rfl) (fun w w' => Below w.heap.size w w') (fun w => Below.refl _ _) (fun x y z h1 h2 => below_step h1 h2) (SC2 ad1 n c k w.heap.size (.slice AK1 nk1 cK1) (.slice AK nk cK) pk o.key res) (SC2_stays _ _ _ _ _ _ _ _ _ _) ?_ ?_
      · simp only [EachStep]
        refine ⟨?_, ?_, ?_, ?_, ?_, ?_, ?_, ?_, ?_, ?_, ?_, ?_, ?_, ?_, ?_, ?_, trivial⟩
        · intro V w' hb hd
          clear hd
          refine ⟨?_⟩
          simp only [fill]
          go_wp2
          exact ⟨rfl, rfl, Below.refl _ _, rfl⟩
        · intro V w' hb hd
          clear hd
          refine ⟨?_⟩
          simp only [fill]
          go_wp2
          exact ⟨rfl, rfl, Below.refl _ _, rfl⟩
        · intro V w' hb hd
          simp only [DepFacts, SC2, Region.binds, forall_const, and_true] at hd
          refine ⟨?_⟩
          simp only [fill, hd]
          clear hd
          go_wp2
          exact ⟨rfl, rfl, Below.refl _ _, rfl⟩
        · intro V w' hb hd
          simp only [DepFacts, SC2, Region.binds, forall_const, and_true] at hd
          refine ⟨?_⟩
          simp only [fill, hd]
          clear hd
          go_wp2
          exact ⟨rfl, rfl, Below.refl _ _, rfl⟩
        · intro V w' hb hd
          simp only [DepFacts, SC2, Region.binds, forall_const, and_true] at hd
          refine ⟨?_⟩
          simp only [fill, hd]
          clear hd
          go_wp2
          exact ⟨rfl, rfl, Below.refl _ _, rfl⟩
        · intro V w' hb hd
          simp only [DepFacts, SC2, Region.binds, forall_const, and_true] at hd
          refine ⟨?_⟩
          simp only [fill, hd]
          clear hd
          go_wp2
          exact ⟨rfl, rfl, Below.refl _ _, rfl⟩
        · intro V w' hb hd
          simp only [DepFacts, SC2, Region.binds, forall_const, and_true] at hd
          refine ⟨?_⟩
          simp only [fill, hd]
          clear hd
          go_wp2
          exact ⟨rfl, rfl, Below.refl _ _, rfl⟩
        · intro V w' hb hd
          simp only [DepFacts, SC2, Region.binds, forall_const, and_true] at hd
          refine ⟨?_⟩
          simp only [fill, hd]
          clear hd
          go_wp2
          exact ⟨rfl, rfl, Below.refl _ _, rfl⟩
        · intro V w' hb hd
          simp only [DepFacts, SC2, Region.binds, forall_const, and_true] at hd
          refine ⟨?_⟩
          simp only [fill, hd]
          clear hd
          go_wp2
          exact ⟨rfl, rfl, Below.refl _ _, rfl⟩
        · intro V w' hb hd
          have q := HP0.out _ hb
          simp only [DepFacts, SC2, Region.binds, forall_const, and_true] at hd
          refine ⟨?_⟩
          simp only [fill, hd]
          clear hd
          go_wp2
          exact ⟨rfl, rfl, Below.refl _ _, rfl⟩
        · intro V w' hb hd
          have q := HS.out _ _ _ _ _ (HB1.out _ hb)
          simp only [DepFacts, SC2, Region.binds, forall_const, and_true] at hd
          refine ⟨?_⟩
          simp only [fill, hd]
          clear hd
          go_wp2
          exact ⟨rfl, rfl, Below.refl _ _, rfl⟩
        · intro V w' hb hd
          simp only [DepFacts, SC2, Region.binds, forall_const, and_true] at hd
          refine ⟨?_⟩
          simp only [fill, hd]
          clear hd
          go_wp2
          exact ⟨rfl, rfl, Below.refl _ _, rfl⟩
        · intro V w' hb hd
          have q := HY1d.out _ hb
          simp only [DepFacts, SC2, Region.binds, forall_const, and_true] at hd
          refine ⟨?_⟩
          simp only [fill, hd]
          clear hd
          go_wp2
          exact ⟨rfl, rfl, Below.refl _ _, rfl⟩
        · intro V w' hb hd
          have q := HS.out _ _ _ _ _ (HB2.out _ hb)
          simp only [DepFacts, SC2, Region.binds, forall_const, and_true] at hd
          refine ⟨?_⟩
          simp only [fill, hd]
          clear hd
          go_wp2
          exact ⟨rfl, rfl, Below.refl _ _, rfl⟩
        · intro V w' hb hd
          have q := HR.out
          simp only [DepFacts, SC2, Region.binds, forall_const, and_true] at hd
          refine ⟨?_⟩
          simp only [fill, hd]
          clear hd
          go_wp2
          exact ⟨rfl, rfl, Below.refl _ _, rfl⟩
        · intro V w' hb hd
          simp only [DepFacts, SC2, Region.binds, forall_const, and_true] at hd
          refine ⟨?_⟩
          simp only [fill, hd]
          clear hd
          go_wp2
          exact ⟨rfl, rfl, Below.refl _ _, rfl⟩
      · intro V w12 hb12 hV
        simp only [SFacts, SC2] at hV
        have h15 := hV.2.2.2.2.2.2.2.2.2.2.2.2.2.2.2.1
        clear hV
        simp only [fill, h15]
        clear h15
        try simp only [Exit.then]
        try go_simp
        have hB12 := below_step (below_drew hBr) hb12
        have hB12w := below_step hb1 hB12
        clear HP0 HY1d HB1 HB2 HR
        cases res
        · -- here
          obtain ⟨res, hres5⟩ : ∃ res, res = decide (pk = o.key) := ⟨_, rfl⟩
          have HR := Lib.hid (show (pk == o.key) = res from by rw [hres5]; exact Bool.eq_iff_iff.2 (by simp))
          replace hres5 := Lib.hid hres5
          have HP0 := Lib.hid (fun (w' : World) (hb : Below w12.drew.heap.size w12.drew w') => cell_ext hb (cell_drew (show w12.cell? _ = _ from cell_ext hb12 (cell_drew p0))))
          have HY1d := Lib.hid (fun (w' : World) (hb : Below w12.drew.heap.size w12.drew w') => HY1.out _ (below_step (below_drew hB12) hb))
          have HB1 := Lib.hid (fun (w' : World) (hb : Below w12.drew.heap.size w12.drew w') => (show Bytes w12.drew _ _ from (show Bytes w12 _ _ from (show Bytes wr.drew _ _ from y1).ext hb12)).ext hb)
          have HB2 := Lib.hid (fun (w' : World) (hb : Below w12.drew.heap.size w12.drew w') => HKB.out _ (below_step (below_drew hB12w) hb))
          go_upto_region 5 with (fail)
          refine wp_region_each (by kernel_rfl) (by kernel_rfl) (by kernel_rfl) (fun w w' => Below w.heap.size w w') (fun w => Below.refl _ _) (fun x y z h1 h2 => below_step h1 h2) (SC5 ad1 n c k w.heap.size (.slice AK1 nk1 cK1) (.slice AK nk cK) pk o.key res) (SC5_stays _ _ _ _ _ _ _ _ _ _) ?_ ?_
          · simp only [EachStep]
            refine ⟨?_, ?_, ?_, ?_, ?_, ?_, ?_, ?_, ?_, ?_, ?_, ?_, ?_, ?_, ?_, ?_, trivial⟩
            · intro V w' hb hd
              clear hd
              refine ⟨?_⟩
              simp only [fill]
              go_wp2
              exact ⟨rfl, rfl, Below.refl _ _, rfl⟩
            · intro V w' hb hd
              clear hd
              refine ⟨?_⟩
              simp only [fill]
              go_wp2
              exact ⟨rfl, rfl, Below.refl _ _, rfl⟩
            · intro V w' hb hd
              simp only [DepFacts, SC5, Region.binds, forall_const, and_true] at hd
              refine ⟨?_⟩
              simp only [fill, hd]
              clear hd
              go_wp2
              exact ⟨rfl, rfl, Below.refl _ _, rfl⟩
            · intro V w' hb hd
              simp only [DepFacts, SC5, Region.binds, forall_const, and_true] at hd
              refine ⟨?_⟩
              simp only [fill, hd]
              clear hd
              go_wp2
              exact ⟨rfl, rfl, Below.refl _ _, rfl⟩
            · intro V w' hb hd
              simp only [DepFacts, SC5, Region.binds, forall_const, and_true] at hd
              refine ⟨?_⟩
              simp only [fill, hd]
              clear hd
              go_wp2
              exact ⟨rfl, rfl, Below.refl _ _, rfl⟩
            · intro V w' hb hd
              simp only [DepFacts, SC5, Region.binds, forall_const, and_true] at hd
              refine ⟨?_⟩
              simp only [fill, hd]
              clear hd
              go_wp2
              exact ⟨rfl, rfl, Below.refl _ _, rfl⟩
            · intro V w' hb hd
              simp only [DepFacts, SC5, Region.binds, forall_const, and_true] at hd
              refine ⟨?_⟩
              simp only [fill, hd]
              clear hd
              go_wp2
              exact ⟨rfl, rfl, Below.refl _ _, rfl⟩
            · intro V w' hb hd
              simp only [DepFacts, SC5, Region.binds, forall_const, and_true] at hd
              refine ⟨?_⟩
              simp only [fill, hd]
              clear hd
              go_wp2
              exact ⟨rfl, rfl, Below.refl _ _, rfl⟩
            · intro V w' hb hd
              simp only [DepFacts, SC5, Region.binds, forall_const, and_true] at hd
              refine ⟨?_⟩
              simp only [fill, hd]
              clear hd
              go_wp2
              exact ⟨rfl, rfl, Below.refl _ _, rfl⟩
            · intro V w' hb hd
              have q := HP0.out _ hb
              simp only [DepFacts, SC5, Region.binds, forall_const, and_true] at hd
              refine ⟨?_⟩
              simp only [fill, hd]
              clear hd
              go_wp2
              exact ⟨rfl, rfl, Below.refl _ _, rfl⟩
            · intro V w' hb hd
              have q := HS.out _ _ _ _ _ (HB1.out _ hb)
              simp only [DepFacts, SC5, Region.binds, forall_const, and_true] at hd
              refine ⟨?_⟩
              simp only [fill, hd]
              clear hd
              go_wp2
              exact ⟨rfl, rfl, Below.refl _ _, rfl⟩
            · intro V w' hb hd
              simp only [DepFacts, SC5, Region.binds, forall_const, and_true] at hd
              refine ⟨?_⟩
              simp only [fill, hd]
              clear hd
              go_wp2
              exact ⟨rfl, rfl, Below.refl _ _, rfl⟩
            · intro V w' hb hd
              have q := HY1d.out _ hb
              simp only [DepFacts, SC5, Region.binds, forall_const, and_true] at hd
              refine ⟨?_⟩
              simp only [fill, hd]
              clear hd
              go_wp2
              exact ⟨rfl, rfl, Below.refl _ _, rfl⟩
            · intro V w' hb hd
              have q := HS.out _ _ _ _ _ (HB2.out _ hb)
              simp only [DepFacts, SC5, Region.binds, forall_const, and_true] at hd
              refine ⟨?_⟩
              simp only [fill, hd]
              clear hd
              go_wp2
              exact ⟨rfl, rfl, Below.refl _ _, rfl⟩
            · intro V w' hb hd
              have q := HR.out
              simp only [DepFacts, SC5, Region.binds, forall_const, and_true] at hd
              refine ⟨?_⟩
              simp only [fill, hd]
              clear hd
              go_wp2
              exact ⟨rfl, rfl, Below.refl _ _, rfl⟩
            · intro V w' hb hd
              simp only [DepFacts, SC5, Region.binds, forall_const, and_true] at hd
              refine ⟨?_⟩
              simp only [fill, hd]
              clear hd
              go_wp2
              exact ⟨rfl, rfl, Below.refl _ _, rfl⟩
          · intro V w13 hb13 hV
            simp only [SFacts, SC5] at hV
            have h15 := hV.2.2.2.2.2.2.2.2.2.2.2.2.2.2.2.1
            clear hV
            simp only [fill, h15]
            clear h15
            try simp only [Exit.then]
            try go_simp
            have hB13 := below_step (below_drew hB12) hb13
            have hB13w := below_step hb1 hB13
            cases res
            · -- another key
              have hne : pk ≠ o.key := of_decide_eq_false hres5.out.symm
              have hBx := hB13
              have hBwx := hB13w
              have hset0 := Lib.hid (fun q => set_at (tail := k) hP (key := o.key) q (by have := HPL.out; omega) hlo (fun p h => by rw [hp] at h; injection h with h; subst h; exact hres.out.symm) (.inl ⟨rfl, fun p h => by rw [hp] at h; injection h with h; subst h; exact hne⟩))
              cases dl
              · -- there
                have hcutK := cutp_h hTP (some ad1) n c (kh := .i64) (hi' := (k : Nat)) (hi := k) rfl (by omega)
                obtain ⟨A10, hcut10, hcutR⟩ := cutp_l hTP (some ad1) n c (kl := .i64) (lo' := (k : Int)) (lo := k) rfl (by omega) (by omega)
                obtain ⟨m10, hm10⟩ : ∃ m, m = n - k := ⟨_, rfl⟩
                obtain ⟨c10, hc10⟩ : ∃ m, m = c - k := ⟨_, rfl⟩
                rw [← hm10, ← hc10] at hcut10
                replace hm10 := Lib.hid hm10
                clear hc10
                have hrd7 := (HG5.out.2.ext hBwx).take (k * 2)
                have hszx := hBx.size
                go_upto_region 8 with (first
                  | (at_builtin; refine wpList_append_rd _ rfl (.const (.slice none 0 0)) (.tmp 47) _ rfl w1.heap.size _ _ 2 48 hTP _ _ _ rfl (World.ownsRow_nil _ _ _ _) (some ad1) k c (xs.take (k * 2)) rfl (by rw [List.length_take, HG5.out.1]; omega) hrd7 (fun u hu => pair_cells HXS.out u (List.mem_of_mem_take hu)) (by unfold maxLen; omega) (by omega) hszx ?_; intro v7 w7 ho7 hg7 hat7)
                  | fail)
                rw [Nat.zero_add, List.nil_append] at ho7
                have hB7 := below_own hBx (World.ownsRow_nil _ w1.heap.size 51 2) (Nat.le_refl _) hg7 hszx
                have hBw7 := below_step hb1 hB7
                have y0 := HY0.out _ hB7
                clear hg7 hat7 hrd7
                have hset := Lib.hid (show setP P o.key o.left = P.take k ++ ((o.key, o.value) :: P.drop (k)) from by unfold Rec.left; rw [HDD.out]; exact hset0.out (some o.value))
                go_upto_region 9 with (fail)
                have hvq : ∀ x, v7.ownBlock = some x → w1.heap.size ≤ x ∧ x < w7.heap.size := fun x hx => ho7.lt x hx
                have hbx : ∀ x, v7.ownBlock = some x → w.heap.size < x := fun x hx => by have := (hvq x hx).1; omega
                have HY1g := Lib.hid (fun (w' : World) (hb : w7.drew.grownBy w' v7.ownBlock) => ((show Blk w7.drew _ _ _ from (hx1.ext hB7).drew).grown hb (fun e => by have := hbx _ e.symm; omega)).cellv (i := 1) rfl)
                have HY2g := Lib.hid (fun (w' : World) (hb : w7.drew.grownBy w' v7.ownBlock) => ((show Blk w7.drew _ _ _ from (hx1.ext hB7).drew).grown hb (fun e => by have := hbx _ e.symm; omega)).cellv (i := 2) rfl)
                have HB2g := Lib.hid (fun (w' : World) (hb : w7.drew.grownBy w' v7.ownBlock) => HKB.out _ ((below_drew hBw7).trans (grown_below hb (fun x hx => Nat.le_of_lt (hbx x hx)) (show w.heap.size ≤ w7.heap.size from hBw7.size))))
                have HB3g := Lib.hid (fun (w' : World) (hb : w7.drew.grownBy w' v7.ownBlock) => HVB.out _ ((below_drew hBw7).trans (grown_below hb (fun x hx => Nat.le_of_lt (hbx x hx)) (show w.heap.size ≤ w7.heap.size from hBw7.size))))
                have HVQ := Lib.hid (fun x hx => (hvq x hx).2)
                have hbq : w1.heap.size ≤ w7.heap.size := hB7.size
                obtain ⟨base, hbase⟩ : ∃ b, b = w1.heap.size := ⟨_, rfl⟩
                obtain ⟨q, hqq⟩ : ∃ q, q = w7.heap.size := ⟨_, rfl⟩
                have ho7' := ho7
                have hbq' := hbq
                rw [← hbase] at ho7' hbq'
                rw [← hqq] at hbq' HVQ
                refine wp_region_late 10 1 (by kernel_rfl) (by kernel_rfl) (by kernel_rfl) (fun w w' => w.grownBy w' v7.ownBlock) (fun _ => World.grownBy.refl _ _) (fun _ _ _ h k => h.trans k) (SSe w.heap.size q nk cK nv cV AK AV v7 o.key o.value) (SSe_stays w.heap.size q nk cK nv cV AK AV v7 o.key o.value HVQ.out) (JSe base q k nk nv (xs.take (k * 2)) v7 o.key o.value)
                  ⟨fun _ => ho7', fun e => (by cases e), fun e => (by cases e), Nat.le_of_eq hqq⟩ ?_ ?_
                · have hbq := hbq'
                  clear hx1 ho7 ho7' hvq hbx hbase hqq hBw7 hB7 y0
                  simp only [PhStep]
                  refine ⟨?_, ?_, ?_, ?_, ?_, ?_, ?_, ?_, ?_, ?_, ?_, trivial⟩
                  · intro L V w' hb hj hl hdo hcl hd
                    clear hdo hcl
                    clear hd
                    refine ⟨?_⟩
                    simp only [fillX, ne_eq, Nat.reduceEqDiff, not_false_eq_true, not_true_eq_false, if_true, if_false]
                    go_wp2
                    exact ⟨⟨rfl, rfl, World.grownBy.refl _ _, rfl⟩, (JSe_far _ _ _ _ _ _ _ _ _ hj (by decide) (by decide))⟩
                  · intro L V w' hb hj hl hdo hcl hd
                    clear hdo hcl
                    clear hd
                    refine ⟨?_⟩
                    simp only [fillX, ne_eq, Nat.reduceEqDiff, not_false_eq_true, not_true_eq_false, if_true, if_false]
                    go_wp2
                    exact ⟨⟨rfl, rfl, World.grownBy.refl _ _, rfl⟩, (JSe_far _ _ _ _ _ _ _ _ _ hj (by decide) (by decide))⟩
                  · intro L V w' hb hj hl hdo hcl hd
                    have q1 := HY1g.out _ hb
                    clear hdo hcl
                    simp only [DepFacts, SSe, Region.binds, forall_const, and_true] at hd
                    refine ⟨?_⟩
                    simp only [fillX, ne_eq, Nat.reduceEqDiff, not_false_eq_true, not_true_eq_false, if_true, if_false, hd]
                    clear hd
                    go_wp2
                    exact ⟨⟨rfl, rfl, World.grownBy.refl _ _, rfl⟩, JSe_far _ _ _ _ _ _ _ _ _ hj (by decide) (by decide)⟩
                  · intro L V w' hb hj hl hdo hcl hd
                    have h9 : L 9 = false := Bool.eq_false_iff.2 fun e => by have := hcl 7 3 (by kernel_rfl) (hcl 8 7 (by kernel_rfl) (hcl 9 8 (by kernel_rfl) e)); rw [this] at hl; cases hl
                    have h10 : L 10 = false := Bool.eq_false_iff.2 fun e => by have := hcl 10 9 (by kernel_rfl) e; rw [this] at h9; cases h9
                    have ho9 := hj.1 h9
                    have hq9 := hj.2.2.2
                    have hby := HB2g.out _ hb
                    clear hdo hcl
                    simp only [DepFacts, SSe, Region.binds, forall_const, and_true] at hd
                    refine ⟨?_⟩
                    simp only [fillX, ne_eq, Nat.reduceEqDiff, not_false_eq_true, not_true_eq_false, if_true, if_false, hd]
                    clear hd
                    simp only [Act.put, List.setIfInBounds_toArray, List.set_cons_zero, List.set_cons_succ]
                    go_wp2_with (first | (at_builtin; refine wpList_append_bytes rfl (.const (.slice none 0 0)) (.tmp 54) _ rfl w'.heap.size hTB (xs := []) rfl (World.ownsRow_nil _ _ _ _) rfl hby (by have := HNK.out; omega) (Nat.le_refl _) ?_; intro v2 w2 ho2 hg2 _; replace hg2 : World.grownBy w' w2 none := hg2) | fail)
                    rw [List.nil_append, Nat.zero_add, HNK.out] at ho2
                    obtain ⟨A2, c2, rfl, hby2⟩ := row_sl ho2
                    have hg2' : w'.grownBy w2 (Value.ownBlock v7) := ⟨hg2.os, hg2.tape, hg2.output, hg2.size, fun k hk _ => hg2.block k hk (by simp)⟩
                    refine ⟨⟨rfl, rfl, hg2', A2, c2, rfl, hby2, fun ad e => ?_⟩, JSe_new _ _ _ _ _ _ _ _ _ h9 h10 (by decide) (by decide) (ho9.kept hg2 (by cases v7.ownBlock <;> simp)) (Nat.le_trans hq9 hg2.size)⟩
                    subst e
                    exact ⟨Nat.le_trans hq9 (own_blk ho2).1, (own_blk ho2).2⟩
                  · intro L V w' hb hj hl hdo hcl hd
                    clear hdo hcl
                    clear hd
                    refine ⟨?_⟩
                    simp only [fillX, ne_eq, Nat.reduceEqDiff, not_false_eq_true, not_true_eq_false, if_true, if_false]
                    go_wp2
                    exact ⟨⟨rfl, rfl, World.grownBy.refl _ _, rfl⟩, (JSe_far _ _ _ _ _ _ _ _ _ hj (by decide) (by decide))⟩
                  · intro L V w' hb hj hl hdo hcl hd
                    have q1 := HY2g.out _ hb
                    clear hdo hcl
                    simp only [DepFacts, SSe, Region.binds, forall_const, and_true] at hd
                    refine ⟨?_⟩
                    simp only [fillX, ne_eq, Nat.reduceEqDiff, not_false_eq_true, not_true_eq_false, if_true, if_false, hd]
                    clear hd
                    go_wp2
                    exact ⟨⟨rfl, rfl, World.grownBy.refl _ _, rfl⟩, JSe_far _ _ _ _ _ _ _ _ _ hj (by decide) (by decide)⟩
                  · intro L V w' hb hj hl hdo hcl hd
                    have h9 : L 9 = false := Bool.eq_false_iff.2 fun e => by have := hcl 7 6 (by kernel_rfl) (hcl 8 7 (by kernel_rfl) (hcl 9 8 (by kernel_rfl) e)); rw [this] at hl; cases hl
                    have h10 : L 10 = false := Bool.eq_false_iff.2 fun e => by have := hcl 10 9 (by kernel_rfl) e; rw [this] at h9; cases h9
                    have ho9 := hj.1 h9
                    have hq9 := hj.2.2.2
                    have hby := HB3g.out _ hb
                    clear hdo hcl
                    simp only [DepFacts, SSe, Region.binds, forall_const, and_true] at hd
                    refine ⟨?_⟩
                    simp only [fillX, ne_eq, Nat.reduceEqDiff, not_false_eq_true, not_true_eq_false, if_true, if_false, hd]
                    clear hd
                    simp only [Act.put, List.setIfInBounds_toArray, List.set_cons_zero, List.set_cons_succ]
                    go_wp2_with (first | (at_builtin; refine wpList_append_bytes rfl (.const (.slice none 0 0)) (.tmp 57) _ rfl w'.heap.size hTB (xs := []) rfl (World.ownsRow_nil _ _ _ _) rfl hby (by have := HNV.out; omega) (Nat.le_refl _) ?_; intro v2 w2 ho2 hg2 _; replace hg2 : World.grownBy w' w2 none := hg2) | fail)
                    rw [List.nil_append, Nat.zero_add, HNV.out] at ho2
                    obtain ⟨A2, c2, rfl, hby2⟩ := row_sl ho2
                    have hg2' : w'.grownBy w2 (Value.ownBlock v7) := ⟨hg2.os, hg2.tape, hg2.output, hg2.size, fun k hk _ => hg2.block k hk (by simp)⟩
                    refine ⟨⟨rfl, rfl, hg2', A2, c2, rfl, hby2, fun ad e => ?_⟩, JSe_new _ _ _ _ _ _ _ _ _ h9 h10 (by decide) (by decide) (ho9.kept hg2 (by cases v7.ownBlock <;> simp)) (Nat.le_trans hq9 hg2.size)⟩
                    subst e
                    exact ⟨Nat.le_trans hq9 (own_blk ho2).1, (own_blk ho2).2⟩
                  · intro L V w' hb hj hl hdo hcl hd
                    clear hdo hcl
                    simp only [DepFacts, SSe, Region.binds, forall_const, and_true] at hd
                    obtain ⟨⟨A', c', e3, hy3, hq3⟩, B', d', e6, hy6, hq6⟩ := hd
                    refine ⟨?_⟩
                    simp only [fillX, ne_eq, Nat.reduceEqDiff, not_false_eq_true, not_true_eq_false, if_true, if_false, e3, e6]
                    go_wp2
                    exact ⟨⟨rfl, rfl, World.grownBy.refl _ _, A', c', B', d', rfl, hy3, hy6, hq3, hq6⟩, JSe_far _ _ _ _ _ _ _ _ _ hj (by decide) (by decide)⟩
                  · intro L V w' hb hj hl hdo hcl hd
                    have h9 : L 9 = false := Bool.eq_false_iff.2 fun e => by have := hcl 9 8 (by kernel_rfl) e; rw [this] at hl; cases hl
                    have h10 : L 10 = false := Bool.eq_false_iff.2 fun e => by have := hcl 10 9 (by kernel_rfl) e; rw [this] at h9; cases h9
                    have ho9 := hj.1 h9
                    have hq9 := hj.2.2.2
                    clear hdo hcl
                    simp only [DepFacts, SSe, Region.binds, forall_const, and_true] at hd
                    obtain ⟨A', c', B', d', e7, hy3, hy6, hq3, hq6⟩ := hd
                    refine ⟨?_⟩
                    simp only [fillX, ne_eq, Nat.reduceEqDiff, not_false_eq_true, not_true_eq_false, if_true, if_false, e7]
                    clear e7
                    simp only [Act.put, List.setIfInBounds_toArray, List.set_cons_zero, List.set_cons_succ]
                    go_wp2_with (first | (refine wpList_row_one rfl (.tmp 59) rfl hTP (by decide) (cs := #[.slice A' nk c', .slice B' nv d']) rfl rfl ?_; intro w7 hx7 hb7 hl7) | fail)
                    have hg7 : w'.grownBy w7 (Value.ownBlock v7) := ⟨hb7.os, hb7.tape, hb7.output, hb7.size, fun k hk _ => hb7.block k hk⟩
                    exact ⟨⟨rfl, rfl, hg7, w'.heap.size, A', c', B', d', rfl, hq9, hx7, hy3.ext hb7, hy6.ext hb7, fun ad e => ⟨(hq3 ad e).1, Nat.lt_of_lt_of_le (hq3 ad e).2 hb7.size⟩, fun ad e => ⟨(hq6 ad e).1, Nat.lt_of_lt_of_le (hq6 ad e).2 hb7.size⟩⟩, JSe_new _ _ _ _ _ _ _ _ _ h9 h10 (by decide) (by decide) (own_ext ho9 hb7) (Nat.le_trans hq9 hb7.size)⟩
                  · intro L V w' hb hj hl hdo hcl hd
                    have h10 : L 10 = false := Bool.eq_false_iff.2 fun e => by have := hcl 10 9 (by kernel_rfl) e; rw [this] at hl; cases hl
                    have ho9 := hj.1 hl
                    have hq9 := hj.2.2.2
                    clear hdo hcl
                    simp only [DepFacts, SSe, Region.binds, forall_const, and_true] at hd
                    obtain ⟨hv0, g, A', c', B', d', e8, hqg, hx8, hy3, hy6, hq3, hq6⟩ : V 0 = v7 ∧ SSe w.heap.size q nk cK nv cV AK AV v7 o.key o.value 8 (V 8) w' := by first | exact ⟨hd.1, hd.2.1⟩ | exact ⟨hd.1, hd.2⟩ | exact ⟨hd.2.1, hd.1⟩ | exact ⟨hd.1, hd.2.2⟩
                    clear hd
                    refine ⟨?_⟩
                    simp only [fillX, ne_eq, Nat.reduceEqDiff, not_false_eq_true, not_true_eq_false, if_true, if_false, hv0, e8]
                    clear hv0 e8
                    simp only [Act.put, List.setIfInBounds_toArray, List.set_cons_zero, List.set_cons_succ]
                    go_wp2_with (first | (at_builtin; refine wpList_append_rd _ rfl (.tmp 52) (.tmp 60) _ rfl base _ _ 2 48 hTP _ _ _ rfl ho9 (some ⟨g, 0, none⟩) 1 1 [.slice A' nk c', .slice B' nv d'] rfl rfl hx8.rd (by intro u hu; simp only [List.mem_cons, List.not_mem_nil, or_false] at hu; rcases hu with rfl | rfl <;> rfl) (by unfold maxLen; omega) (by omega) (Nat.le_trans hbq hq9) ?_; intro v2 w2 ho2 hg2 hat2) | fail)
                    have hlo : ∀ x, v7.ownBlock = some x → x < q := HVQ.out
                    have hy3' := hy3.grownB hg2 (fun ad e => fun e' => by have := (hq3 ad e).1; have := hlo _ e'.symm; omega)
                    have hy6' := hy6.grownB hg2 (fun ad e => fun e' => by have := (hq6 ad e).1; have := hlo _ e'.symm; omega)
                    exact ⟨⟨rfl, rfl, hg2, trivial⟩, JSe_nine _ _ _ _ _ _ _ _ _ h10 ⟨A', c', B', d', ho2, hy3', hy6', fun ad e => apart_blk hat2 hlo (hq3 ad e), fun ad e => apart_blk hat2 hlo (hq6 ad e)⟩ (Nat.le_trans hq9 hg2.size)⟩
                  · intro L V w' hb hj hl hdo hcl hd
                    have h9 : L 9 = true := hdo 9 (by kernel_rfl)
                    have hon := hj.2.1 h9
                    have hq9 := hj.2.2.2
                    clear hdo hcl hd
                    refine ⟨?_⟩
                    simp only [fillX, ne_eq, Nat.reduceEqDiff, not_false_eq_true, not_true_eq_false, if_true, if_false]
                    go_wp2
                    exact ⟨⟨rfl, rfl, World.grownBy.refl _ _, trivial⟩, JSe_ten _ _ _ _ _ _ _ _ _ h9 hon hq9⟩
                · intro L V w9 hL hb9 hs hj
                  clear hs ho7' hbq'
                  obtain ⟨AA, cc, BB, dd, ho9, hya, hyv, hna, hnv9⟩ := hj.2.2.1 (hL 10 (by decide))
                  rw [hbase] at ho9
                  clear hbase hqq
                  have hB9 := below_own (show Below w1.heap.size w1 w7.drew from hB7.drew) (show w7.drew.ownsRow _ _ _ _ _ _ from ho7) (Nat.le_refl _) hb9 hbq
                  clear hL hj
                  simp only [fill]
                  try simp only [Exit.then]
                  try go_simp
                  have hsz := hB9.size
                  have hrd10 := hcutR _ _ HG5.out.1 (HG5.out.2.ext (below_step hb1 hB9))
                  go_wp2_with (first
                    | (at_builtin; refine wpList_append_rd _ rfl (.tmp 62) (.tmp 65) _ rfl w1.heap.size _ _ 2 48 hTP _ _ _ rfl ho9 A10 m10 c10 (xs.drop (k * 2)) rfl (by rw [List.length_drop, HG5.out.1, hm10.out, Nat.sub_mul]) hrd10 (fun u hu => pair_cells HXS.out u (List.mem_of_mem_drop hu)) (by have := hm10.out; unfold maxLen; omega) (by have := hm10.out; omega) hsz ?_; intro v10 w10 ho10 hg10 hat10)
                    | fail)
                  have hB10 := below_own hB9 ho9 (Nat.le_refl _) hg10 hsz
                  have hBw10 := below_step hb1 hB10
                  go_ret
                  have hya10 := hya.grownB hg10 (fun ad e => fun e' => hna ad e e'.symm)
                  have hyv10 := hyv.grownB hg10 (fun ad e => fun e' => hnv9 ad e e'.symm)
                  have hrow := (((HXS.out.ext rPair_stays hBw10).take (m := k) (by have := HPL.out; omega)).append (RowC.one hya10 hyv10)).append ((HXS.out.ext rPair_stays hBw10).drop (m := k) (by have := HPL.out; omega))
                  rw [List.append_assoc (P.take k), List.singleton_append] at hrow
                  refine ⟨_, rfl, ?_, hBw10⟩
                  rw [hset.out]
                  exact slice_of_own ho10 (by have := hrow.1; have := ho10.1; omega) hrow.2
              · -- gone
                have hcutK := cutp_h hTP (some ad1) n c (kh := .i64) (hi' := (k : Nat)) (hi := k) rfl (by omega)
                obtain ⟨A10, hcut10, hcutR⟩ := cutp_l hTP (some ad1) n c (kl := .i64) (lo' := (k : Int)) (lo := k) rfl (by omega) (by omega)
                obtain ⟨m10, hm10⟩ : ∃ m, m = n - k := ⟨_, rfl⟩
                obtain ⟨c10, hc10⟩ : ∃ m, m = c - k := ⟨_, rfl⟩
                rw [← hm10, ← hc10] at hcut10
                replace hm10 := Lib.hid hm10
                clear hc10
                have hrd7 := (HG5.out.2.ext hBwx).take (k * 2)
                have hszx := hBx.size
                go_upto_region 8 with (first
                  | (at_builtin; refine wpList_append_rd _ rfl (.const (.slice none 0 0)) (.tmp 47) _ rfl w1.heap.size _ _ 2 48 hTP _ _ _ rfl (World.ownsRow_nil _ _ _ _) (some ad1) k c (xs.take (k * 2)) rfl (by rw [List.length_take, HG5.out.1]; omega) hrd7 (fun u hu => pair_cells HXS.out u (List.mem_of_mem_take hu)) (by unfold maxLen; omega) (by omega) hszx ?_; intro v7 w7 ho7 hg7 hat7)
                  | fail)
                rw [Nat.zero_add, List.nil_append] at ho7
                have hB7 := below_own hBx (World.ownsRow_nil _ w1.heap.size 51 2) (Nat.le_refl _) hg7 hszx
                have hBw7 := below_step hb1 hB7
                have y0 := HY0.out _ hB7
                clear hg7 hat7 hrd7
                have hset := Lib.hid (show setP P o.key o.left = P.take k ++ P.drop (k) from by unfold Rec.left; rw [HDD.out]; exact hset0.out none)
                have hsz := hB7.size
                have hrd10 := hcutR _ _ HG5.out.1 (HG5.out.2.ext (below_step hb1 hB7))
                go_wp2_with (first
                  | (at_builtin; refine wpList_append_rd _ rfl (.tmp 62) (.tmp 65) _ rfl w1.heap.size _ _ 2 48 hTP _ _ _ rfl ho7 A10 m10 c10 (xs.drop (k * 2)) rfl (by rw [List.length_drop, HG5.out.1, hm10.out, Nat.sub_mul]) hrd10 (fun u hu => pair_cells HXS.out u (List.mem_of_mem_drop hu)) (by have := hm10.out; unfold maxLen; omega) (by have := hm10.out; omega) hsz ?_; intro v10 w10 ho10 hg10 hat10)
                  | fail)
                have hB10 := below_own hB7 ho7 (Nat.le_refl _) hg10 hsz
                have hBw10 := below_step hb1 hB10
                go_ret
                have hrow := ((HXS.out.ext rPair_stays hBw10).take (m := k) (by have := HPL.out; omega)).append ((HXS.out.ext rPair_stays hBw10).drop (m := k) (by have := HPL.out; omega))
                refine ⟨_, rfl, ?_, hBw10⟩
                rw [hset.out]
                exact slice_of_own ho10 (by have := hrow.1; have := ho10.1; omega) hrow.2
            · -- the key
              have heq : pk = o.key := of_decide_eq_true hres5.out.symm
              have hBx := hB13
              have hBwx := hB13w
              have hset0 := Lib.hid (fun q => set_at (tail := (k + 1)) hP (key := o.key) q (by have := HPL.out; omega) hlo (fun p h => by rw [hp] at h; injection h with h; subst h; exact hres.out.symm) (.inr ⟨rfl, _, hp, heq⟩))
              cases dl
              · -- there
                have hcutK := cutp_h hTP (some ad1) n c (kh := .i64) (hi' := (k : Nat)) (hi := k) rfl (by omega)
                obtain ⟨A10, hcut10, hcutR⟩ := cutp_l hTP (some ad1) n c (kl := .i64) (lo' := ((k : Int) + 1)) (lo := (k + 1)) (by omega) (by omega) (by omega)
                obtain ⟨m10, hm10⟩ : ∃ m, m = n - (k + 1) := ⟨_, rfl⟩
                obtain ⟨c10, hc10⟩ : ∃ m, m = c - (k + 1) := ⟨_, rfl⟩
                rw [← hm10, ← hc10] at hcut10
                replace hm10 := Lib.hid hm10
                clear hc10
                have hrd7 := (HG5.out.2.ext hBwx).take (k * 2)
                have hszx := hBx.size
                go_upto_region 8 with (first
                  | (at_builtin; refine wpList_append_rd _ rfl (.const (.slice none 0 0)) (.tmp 47) _ rfl w1.heap.size _ _ 2 48 hTP _ _ _ rfl (World.ownsRow_nil _ _ _ _) (some ad1) k c (xs.take (k * 2)) rfl (by rw [List.length_take, HG5.out.1]; omega) hrd7 (fun u hu => pair_cells HXS.out u (List.mem_of_mem_take hu)) (by unfold maxLen; omega) (by omega) hszx ?_; intro v7 w7 ho7 hg7 hat7)
                  | fail)
                rw [Nat.zero_add, List.nil_append] at ho7
                have hB7 := below_own hBx (World.ownsRow_nil _ w1.heap.size 51 2) (Nat.le_refl _) hg7 hszx
                have hBw7 := below_step hb1 hB7
                have y0 := HY0.out _ hB7
                clear hg7 hat7 hrd7
                have hset := Lib.hid (show setP P o.key o.left = P.take k ++ ((o.key, o.value) :: P.drop ((k + 1))) from by unfold Rec.left; rw [HDD.out]; exact hset0.out (some o.value))
                go_upto_region 9 with (fail)
                have hvq : ∀ x, v7.ownBlock = some x → w1.heap.size ≤ x ∧ x < w7.heap.size := fun x hx => ho7.lt x hx
                have hbx : ∀ x, v7.ownBlock = some x → w.heap.size < x := fun x hx => by have := (hvq x hx).1; omega
                have HY1g := Lib.hid (fun (w' : World) (hb : w7.drew.grownBy w' v7.ownBlock) => ((show Blk w7.drew _ _ _ from (hx1.ext hB7).drew).grown hb (fun e => by have := hbx _ e.symm; omega)).cellv (i := 1) rfl)
                have HY2g := Lib.hid (fun (w' : World) (hb : w7.drew.grownBy w' v7.ownBlock) => ((show Blk w7.drew _ _ _ from (hx1.ext hB7).drew).grown hb (fun e => by have := hbx _ e.symm; omega)).cellv (i := 2) rfl)
                have HB2g := Lib.hid (fun (w' : World) (hb : w7.drew.grownBy w' v7.ownBlock) => HKB.out _ ((below_drew hBw7).trans (grown_below hb (fun x hx => Nat.le_of_lt (hbx x hx)) (show w.heap.size ≤ w7.heap.size from hBw7.size))))
                have HB3g := Lib.hid (fun (w' : World) (hb : w7.drew.grownBy w' v7.ownBlock) => HVB.out _ ((below_drew hBw7).trans (grown_below hb (fun x hx => Nat.le_of_lt (hbx x hx)) (show w.heap.size ≤ w7.heap.size from hBw7.size))))
                have HVQ := Lib.hid (fun x hx => (hvq x hx).2)
                have hbq : w1.heap.size ≤ w7.heap.size := hB7.size
                obtain ⟨base, hbase⟩ : ∃ b, b = w1.heap.size := ⟨_, rfl⟩
                obtain ⟨q, hqq⟩ : ∃ q, q = w7.heap.size := ⟨_, rfl⟩
                have ho7' := ho7
                have hbq' := hbq
                rw [← hbase] at ho7' hbq'
                rw [← hqq] at hbq' HVQ
                refine wp_region_late 10 1 (by kernel_rfl) (by kernel_rfl) (by kernel_rfl) (fun w w' => w.grownBy w' v7.ownBlock) (fun _ => World.grownBy.refl _ _) (fun _ _ _ h k => h.trans k) (SSe w.heap.size q nk cK nv cV AK AV v7 o.key o.value) (SSe_stays w.heap.size q nk cK nv cV AK AV v7 o.key o.value HVQ.out) (JSe base q k nk nv (xs.take (k * 2)) v7 o.key o.value)
                  ⟨fun _ => ho7', fun e => (by cases e), fun e => (by cases e), Nat.le_of_eq hqq⟩ ?_ ?_
                · have hbq := hbq'
                  clear hx1 ho7 ho7' hvq hbx hbase hqq hBw7 hB7 y0
                  simp only [PhStep]
                  refine ⟨?_, ?_, ?_, ?_, ?_, ?_, ?_, ?_, ?_, ?_, ?_, trivial⟩
                  · intro L V w' hb hj hl hdo hcl hd
                    clear hdo hcl
                    clear hd
                    refine ⟨?_⟩
                    simp only [fillX, ne_eq, Nat.reduceEqDiff, not_false_eq_true, not_true_eq_false, if_true, if_false]
                    go_wp2
                    exact ⟨⟨rfl, rfl, World.grownBy.refl _ _, rfl⟩, (JSe_far _ _ _ _ _ _ _ _ _ hj (by decide) (by decide))⟩
                  · intro L V w' hb hj hl hdo hcl hd
                    clear hdo hcl
                    clear hd
                    refine ⟨?_⟩
                    simp only [fillX, ne_eq, Nat.reduceEqDiff, not_false_eq_true, not_true_eq_false, if_true, if_false]
                    go_wp2
                    exact ⟨⟨rfl, rfl, World.grownBy.refl _ _, rfl⟩, (JSe_far _ _ _ _ _ _ _ _ _ hj (by decide) (by decide))⟩
                  · intro L V w' hb hj hl hdo hcl hd
                    have q1 := HY1g.out _ hb
                    clear hdo hcl
                    simp only [DepFacts, SSe, Region.binds, forall_const, and_true] at hd
                    refine ⟨?_⟩
                    simp only [fillX, ne_eq, Nat.reduceEqDiff, not_false_eq_true, not_true_eq_false, if_true, if_false, hd]
                    clear hd
                    go_wp2
                    exact ⟨⟨rfl, rfl, World.grownBy.refl _ _, rfl⟩, JSe_far _ _ _ _ _ _ _ _ _ hj (by decide) (by decide)⟩
                  · intro L V w' hb hj hl hdo hcl hd
                    have h9 : L 9 = false := Bool.eq_false_iff.2 fun e => by have := hcl 7 3 (by kernel_rfl) (hcl 8 7 (by kernel_rfl) (hcl 9 8 (by kernel_rfl) e)); rw [this] at hl; cases hl
                    have h10 : L 10 = false := Bool.eq_false_iff.2 fun e => by have := hcl 10 9 (by kernel_rfl) e; rw [this] at h9; cases h9
                    have ho9 := hj.1 h9
                    have hq9 := hj.2.2.2
                    have hby := HB2g.out _ hb
                    clear hdo hcl
                    simp only [DepFacts, SSe, Region.binds, forall_const, and_true] at hd
                    refine ⟨?_⟩
                    simp only [fillX, ne_eq, Nat.reduceEqDiff, not_false_eq_true, not_true_eq_false, if_true, if_false, hd]
                    clear hd
                    simp only [Act.put, List.setIfInBounds_toArray, List.set_cons_zero, List.set_cons_succ]
                    go_wp2_with (first | (at_builtin; refine wpList_append_bytes rfl (.const (.slice none 0 0)) (.tmp 54) _ rfl w'.heap.size hTB (xs := []) rfl (World.ownsRow_nil _ _ _ _) rfl hby (by have := HNK.out; omega) (Nat.le_refl _) ?_; intro v2 w2 ho2 hg2 _; replace hg2 : World.grownBy w' w2 none := hg2) | fail)
                    rw [List.nil_append, Nat.zero_add, HNK.out] at ho2
                    obtain ⟨A2, c2, rfl, hby2⟩ := row_sl ho2
                    have hg2' : w'.grownBy w2 (Value.ownBlock v7) := ⟨hg2.os, hg2.tape, hg2.output, hg2.size, fun k hk _ => hg2.block k hk (by simp)⟩
                    refine ⟨⟨rfl, rfl, hg2', A2, c2, rfl, hby2, fun ad e => ?_⟩, JSe_new _ _ _ _ _ _ _ _ _ h9 h10 (by decide) (by decide) (ho9.kept hg2 (by cases v7.ownBlock <;> simp)) (Nat.le_trans hq9 hg2.size)⟩
                    subst e
                    exact ⟨Nat.le_trans hq9 (own_blk ho2).1, (own_blk ho2).2⟩
                  · intro L V w' hb hj hl hdo hcl hd
                    clear hdo hcl
                    clear hd
                    refine ⟨?_⟩
                    simp only [fillX, ne_eq, Nat.reduceEqDiff, not_false_eq_true, not_true_eq_false, if_true, if_false]
                    go_wp2
                    exact ⟨⟨rfl, rfl, World.grownBy.refl _ _, rfl⟩, (JSe_far _ _ _ _ _ _ _ _ _ hj (by decide) (by decide))⟩
                  · intro L V w' hb hj hl hdo hcl hd
                    have q1 := HY2g.out _ hb
                    clear hdo hcl
                    simp only [DepFacts, SSe, Region.binds, forall_const, and_true] at hd
                    refine ⟨?_⟩
                    simp only [fillX, ne_eq, Nat.reduceEqDiff, not_false_eq_true, not_true_eq_false, if_true, if_false, hd]
                    clear hd
                    go_wp2
                    exact ⟨⟨rfl, rfl, World.grownBy.refl _ _, rfl⟩, JSe_far _ _ _ _ _ _ _ _ _ hj (by decide) (by decide)⟩
                  · intro L V w' hb hj hl hdo hcl hd
                    have h9 : L 9 = false := Bool.eq_false_iff.2 fun e => by have := hcl 7 6 (by kernel_rfl) (hcl 8 7 (by kernel_rfl) (hcl 9 8 (by kernel_rfl) e)); rw [this] at hl; cases hl
                    have h10 : L 10 = false := Bool.eq_false_iff.2 fun e => by have := hcl 10 9 (by kernel_rfl) e; rw [this] at h9; cases h9
                    have ho9 := hj.1 h9
                    have hq9 := hj.2.2.2
                    have hby := HB3g.out _ hb
                    clear hdo hcl
                    simp only [DepFacts, SSe, Region.binds, forall_const, and_true] at hd
                    refine ⟨?_⟩
                    simp only [fillX, ne_eq, Nat.reduceEqDiff, not_false_eq_true, not_true_eq_false, if_true, if_false, hd]
                    clear hd
                    simp only [Act.put, List.setIfInBounds_toArray, List.set_cons_zero, List.set_cons_succ]
                    go_wp2_with (first | (at_builtin; refine wpList_append_bytes rfl (.const (.slice none 0 0)) (.tmp 57) _ rfl w'.heap.size hTB (xs := []) rfl (World.ownsRow_nil _ _ _ _) rfl hby (by have := HNV.out; omega) (Nat.le_refl _) ?_; intro v2 w2 ho2 hg2 _; replace hg2 : World.grownBy w' w2 none := hg2) | fail)
                    rw [List.nil_append, Nat.zero_add, HNV.out] at ho2
                    obtain ⟨A2, c2, rfl, hby2⟩ := row_sl ho2
                    have hg2' : w'.grownBy w2 (Value.ownBlock v7) := ⟨hg2.os, hg2.tape, hg2.output, hg2.size, fun k hk _ => hg2.block k hk (by simp)⟩
                    refine ⟨⟨rfl, rfl, hg2', A2, c2, rfl, hby2, fun ad e => ?_⟩, JSe_new _ _ _ _ _ _ _ _ _ h9 h10 (by decide) (by decide) (ho9.kept hg2 (by cases v7.ownBlock <;> simp)) (Nat.le_trans hq9 hg2.size)⟩
                    subst e
                    exact ⟨Nat.le_trans hq9 (own_blk ho2).1, (own_blk ho2).2⟩
                  · intro L V w' hb hj hl hdo hcl hd
                    clear hdo hcl
                    simp only [DepFacts, SSe, Region.binds, forall_const, and_true] at hd
                    obtain ⟨⟨A', c', e3, hy3, hq3⟩, B', d', e6, hy6, hq6⟩ := hd
                    refine ⟨?_⟩
                    simp only [fillX, ne_eq, Nat.reduceEqDiff, not_false_eq_true, not_true_eq_false, if_true, if_false, e3, e6]
                    go_wp2
                    exact ⟨⟨rfl, rfl, World.grownBy.refl _ _, A', c', B', d', rfl, hy3, hy6, hq3, hq6⟩, JSe_far _ _ _ _ _ _ _ _ _ hj (by decide) (by decide)⟩
                  · intro L V w' hb hj hl hdo hcl hd
                    have h9 : L 9 = false := Bool.eq_false_iff.2 fun e => by have := hcl 9 8 (by kernel_rfl) e; rw [this] at hl; cases hl
                    have h10 : L 10 = false := Bool.eq_false_iff.2 fun e => by have := hcl 10 9 (by kernel_rfl) e; rw [this] at h9; cases h9
                    have ho9 := hj.1 h9
                    have hq9 := hj.2.2.2
                    clear hdo hcl
                    simp only [DepFacts, SSe, Region.binds, forall_const, and_true] at hd
                    obtain ⟨A', c', B', d', e7, hy3, hy6, hq3, hq6⟩ := hd
                    refine ⟨?_⟩
                    simp only [fillX, ne_eq, Nat.reduceEqDiff, not_false_eq_true, not_true_eq_false, if_true, if_false, e7]
                    clear e7
                    simp only [Act.put, List.setIfInBounds_toArray, List.set_cons_zero, List.set_cons_succ]
                    go_wp2_with (first | (refine wpList_row_one rfl (.tmp 59) rfl hTP (by decide) (cs := #[.slice A' nk c', .slice B' nv d']) rfl rfl ?_; intro w7 hx7 hb7 hl7) | fail)
                    have hg7 : w'.grownBy w7 (Value.ownBlock v7) := ⟨hb7.os, hb7.tape, hb7.output, hb7.size, fun k hk _ => hb7.block k hk⟩
                    exact ⟨⟨rfl, rfl, hg7, w'.heap.size, A', c', B', d', rfl, hq9, hx7, hy3.ext hb7, hy6.ext hb7, fun ad e => ⟨(hq3 ad e).1, Nat.lt_of_lt_of_le (hq3 ad e).2 hb7.size⟩, fun ad e => ⟨(hq6 ad e).1, Nat.lt_of_lt_of_le (hq6 ad e).2 hb7.size⟩⟩, JSe_new _ _ _ _ _ _ _ _ _ h9 h10 (by decide) (by decide) (own_ext ho9 hb7) (Nat.le_trans hq9 hb7.size)⟩
                  · intro L V w' hb hj hl hdo hcl hd
                    have h10 : L 10 = false := Bool.eq_false_iff.2 fun e => by have := hcl 10 9 (by kernel_rfl) e; rw [this] at hl; cases hl
                    have ho9 := hj.1 hl
                    have hq9 := hj.2.2.2
                    clear hdo hcl
                    simp only [DepFacts, SSe, Region.binds, forall_const, and_true] at hd
                    obtain ⟨hv0, g, A', c', B', d', e8, hqg, hx8, hy3, hy6, hq3, hq6⟩ : V 0 = v7 ∧ SSe w.heap.size q nk cK nv cV AK AV v7 o.key o.value 8 (V 8) w' := by first | exact ⟨hd.1, hd.2.1⟩ | exact ⟨hd.1, hd.2⟩ | exact ⟨hd.2.1, hd.1⟩ | exact ⟨hd.1, hd.2.2⟩
                    clear hd
                    refine ⟨?_⟩
                    simp only [fillX, ne_eq, Nat.reduceEqDiff, not_false_eq_true, not_true_eq_false, if_true, if_false, hv0, e8]
                    clear hv0 e8
                    simp only [Act.put, List.setIfInBounds_toArray, List.set_cons_zero, List.set_cons_succ]
                    go_wp2_with (first | (at_builtin; refine wpList_append_rd _ rfl (.tmp 52) (.tmp 60) _ rfl base _ _ 2 48 hTP _ _ _ rfl ho9 (some ⟨g, 0, none⟩) 1 1 [.slice A' nk c', .slice B' nv d'] rfl rfl hx8.rd (by intro u hu; simp only [List.mem_cons, List.not_mem_nil, or_false] at hu; rcases hu with rfl | rfl <;> rfl) (by unfold maxLen; omega) (by omega) (Nat.le_trans hbq hq9) ?_; intro v2 w2 ho2 hg2 hat2) | fail)
                    have hlo : ∀ x, v7.ownBlock = some x → x < q := HVQ.out
                    have hy3' := hy3.grownB hg2 (fun ad e => fun e' => by have := (hq3 ad e).1; have := hlo _ e'.symm; omega)
                    have hy6' := hy6.grownB hg2 (fun ad e => fun e' => by have := (hq6 ad e).1; have := hlo _ e'.symm; omega)
                    exact ⟨⟨rfl, rfl, hg2, trivial⟩, JSe_nine _ _ _ _ _ _ _ _ _ h10 ⟨A', c', B', d', ho2, hy3', hy6', fun ad e => apart_blk hat2 hlo (hq3 ad e), fun ad e => apart_blk hat2 hlo (hq6 ad e)⟩ (Nat.le_trans hq9 hg2.size)⟩
                  · intro L V w' hb hj hl hdo hcl hd
                    have h9 : L 9 = true := hdo 9 (by kernel_rfl)
                    have hon := hj.2.1 h9
                    have hq9 := hj.2.2.2
                    clear hdo hcl hd
                    refine ⟨?_⟩
                    simp only [fillX, ne_eq, Nat.reduceEqDiff, not_false_eq_true, not_true_eq_false, if_true, if_false]
                    go_wp2
                    exact ⟨⟨rfl, rfl, World.grownBy.refl _ _, trivial⟩, JSe_ten _ _ _ _ _ _ _ _ _ h9 hon hq9⟩
                · intro L V w9 hL hb9 hs hj
                  clear hs ho7' hbq'
                  obtain ⟨AA, cc, BB, dd, ho9, hya, hyv, hna, hnv9⟩ := hj.2.2.1 (hL 10 (by decide))
                  rw [hbase] at ho9
                  clear hbase hqq
                  have hB9 := below_own (show Below w1.heap.size w1 w7.drew from hB7.drew) (show w7.drew.ownsRow _ _ _ _ _ _ from ho7) (Nat.le_refl _) hb9 hbq
                  clear hL hj
                  simp only [fill]
                  try simp only [Exit.then]
                  try go_simp
                  have hsz := hB9.size
                  have hrd10 := hcutR _ _ HG5.out.1 (HG5.out.2.ext (below_step hb1 hB9))
                  go_wp2_with (first
                    | (at_builtin; refine wpList_append_rd _ rfl (.tmp 62) (.tmp 65) _ rfl w1.heap.size _ _ 2 48 hTP _ _ _ rfl ho9 A10 m10 c10 (xs.drop ((k + 1) * 2)) rfl (by rw [List.length_drop, HG5.out.1, hm10.out, Nat.sub_mul]) hrd10 (fun u hu => pair_cells HXS.out u (List.mem_of_mem_drop hu)) (by have := hm10.out; unfold maxLen; omega) (by have := hm10.out; omega) hsz ?_; intro v10 w10 ho10 hg10 hat10)
                    | fail)
                  have hB10 := below_own hB9 ho9 (Nat.le_refl _) hg10 hsz
                  have hBw10 := below_step hb1 hB10
                  go_ret
                  have hya10 := hya.grownB hg10 (fun ad e => fun e' => hna ad e e'.symm)
                  have hyv10 := hyv.grownB hg10 (fun ad e => fun e' => hnv9 ad e e'.symm)
                  have hrow := (((HXS.out.ext rPair_stays hBw10).take (m := k) (by have := HPL.out; omega)).append (RowC.one hya10 hyv10)).append ((HXS.out.ext rPair_stays hBw10).drop (m := (k + 1)) (by have := HPL.out; omega))
                  rw [List.append_assoc (P.take k), List.singleton_append] at hrow
                  refine ⟨_, rfl, ?_, hBw10⟩
                  rw [hset.out]
                  exact slice_of_own ho10 (by have := hrow.1; have := ho10.1; omega) hrow.2
              · -- gone
                have hcutK := cutp_h hTP (some ad1) n c (kh := .i64) (hi' := (k : Nat)) (hi := k) rfl (by omega)
                obtain ⟨A10, hcut10, hcutR⟩ := cutp_l hTP (some ad1) n c (kl := .i64) (lo' := ((k : Int) + 1)) (lo := (k + 1)) (by omega) (by omega) (by omega)
                obtain ⟨m10, hm10⟩ : ∃ m, m = n - (k + 1) := ⟨_, rfl⟩
                obtain ⟨c10, hc10⟩ : ∃ m, m = c - (k + 1) := ⟨_, rfl⟩
                rw [← hm10, ← hc10] at hcut10
                replace hm10 := Lib.hid hm10
                clear hc10
                have hrd7 := (HG5.out.2.ext hBwx).take (k * 2)
                have hszx := hBx.size
                go_upto_region 8 with (first
                  | (at_builtin; refine wpList_append_rd _ rfl (.const (.slice none 0 0)) (.tmp 47) _ rfl w1.heap.size _ _ 2 48 hTP _ _ _ rfl (World.ownsRow_nil _ _ _ _) (some ad1) k c (xs.take (k * 2)) rfl (by rw [List.length_take, HG5.out.1]; omega) hrd7 (fun u hu => pair_cells HXS.out u (List.mem_of_mem_take hu)) (by unfold maxLen; omega) (by omega) hszx ?_; intro v7 w7 ho7 hg7 hat7)
                  | fail)
                rw [Nat.zero_add, List.nil_append] at ho7
                have hB7 := below_own hBx (World.ownsRow_nil _ w1.heap.size 51 2) (Nat.le_refl _) hg7 hszx
                have hBw7 := below_step hb1 hB7
                have y0 := HY0.out _ hB7
                clear hg7 hat7 hrd7
                have hset := Lib.hid (show setP P o.key o.left = P.take k ++ P.drop ((k + 1)) from by unfold Rec.left; rw [HDD.out]; exact hset0.out none)
                have hsz := hB7.size
                have hrd10 := hcutR _ _ HG5.out.1 (HG5.out.2.ext (below_step hb1 hB7))
                go_wp2_with (first
                  | (at_builtin; refine wpList_append_rd _ rfl (.tmp 62) (.tmp 65) _ rfl w1.heap.size _ _ 2 48 hTP _ _ _ rfl ho7 A10 m10 c10 (xs.drop ((k + 1) * 2)) rfl (by rw [List.length_drop, HG5.out.1, hm10.out, Nat.sub_mul]) hrd10 (fun u hu => pair_cells HXS.out u (List.mem_of_mem_drop hu)) (by have := hm10.out; unfold maxLen; omega) (by have := hm10.out; omega) hsz ?_; intro v10 w10 ho10 hg10 hat10)
                  | fail)
                have hB10 := below_own hB7 ho7 (Nat.le_refl _) hg10 hsz
                have hBw10 := below_step hb1 hB10
                go_ret
                have hrow := ((HXS.out.ext rPair_stays hBw10).take (m := k) (by have := HPL.out; omega)).append ((HXS.out.ext rPair_stays hBw10).drop (m := (k + 1)) (by have := HPL.out; omega))
                refine ⟨_, rfl, ?_, hBw10⟩
                rw [hset.out]
                exact slice_of_own ho10 (by have := hrow.1; have := ho10.1; omega) hrow.2
        · -- on
          go_wp2
          go_roundw
          case rel =>
            refine ⟨k + 1, by omega, by go_num, fun p h => ?_, hB12⟩
            obtain ⟨hk', hq'⟩ := List.getElem?_eq_some_iff.1 hp
            rw [List.take_succ_eq_append_getElem hk', hq'] at h
            rcases List.mem_append.1 h with h | h
            · exact hlo p h
            · rw [List.mem_singleton.1 h]
              exact hres.out.symm
          case measure => simp [RowKit.intOf]; omega
    · obtain rfl : k = n := by omega
      have f1 : decide ((k : Int) < k) = false := decide_eq_false (by omega)
      go_upto_region 2 with (fail)
      refine wp_region_each (by kernel_rfl) (by kernel_rfl) (by kernel_rfl) (fun w w' => Below w.heap.size w w') (fun w => Below.refl _ _) (fun x y z h1 h2 => below_step h1 h2) (SC2o A k c k) (SC2o_stays _ _ _ _) ?_ ?_
      · simp only [EachStep]
        refine ⟨?_, ?_, ?_, ?_, ?_, ?_, ?_, ?_, ?_, ?_, ?_, ?_, ?_, ?_, ?_, ?_, trivial⟩
        · intro V w' hb hd
          clear hd
          refine ⟨?_⟩
          simp only [fill]
          go_wp2
          exact ⟨rfl, rfl, Below.refl _ _, rfl⟩
        · intro V w' hb hd
          clear hd
          refine ⟨?_⟩
          simp only [fill]
          go_wp2
          exact ⟨rfl, rfl, Below.refl _ _, rfl⟩
        · intro V w' hb hd
          simp only [DepFacts, SC2o, Region.binds, forall_const, and_true] at hd
          refine ⟨?_⟩
          simp only [fill, hd]
          clear hd
          go_wp2
          exact ⟨rfl, rfl, Below.refl _ _, rfl⟩
        · intro V w' hb hd
          simp only [DepFacts, SC2o, Region.binds, forall_const, and_true] at hd
          refine ⟨?_⟩
          simp only [fill, hd]
          clear hd
          go_wp2
          exact ⟨rfl, rfl, Below.refl _ _, rfl⟩
        · intro V w' hb hd
          simp only [DepFacts, SC2o, Region.binds, forall_const, and_true] at hd
          refine ⟨?_⟩
          simp only [fill, hd]
          clear hd
          go_wp2
          exact ⟨rfl, rfl, Below.refl _ _, rfl⟩
        · intro V w' hb hd
          simp only [DepFacts, SC2o, Region.binds, forall_const, and_true] at hd
          refine ⟨?_⟩
          simp only [fill, hd]
          clear hd
          go_wp2
          exact ⟨rfl, rfl, Below.refl _ _, trivial⟩
        · intro V w' hb hd
          simp only [DepFacts, SC2o, Region.binds, forall_const, and_true] at hd
          refine ⟨?_⟩
          simp only [fill, hd]
          clear hd
          go_wp2
          exact ⟨rfl, rfl, Below.refl _ _, trivial⟩
        · intro V w' hb hd
          simp only [DepFacts, SC2o, Region.binds, forall_const, and_true, true_and] at hd
          refine ⟨?_⟩
          simp only [fill, hd]
          clear hd
          go_wp2
          exact ⟨rfl, rfl, Below.refl _ _, trivial⟩
        · intro V w' hb hd
          simp only [DepFacts, SC2o, Region.binds, forall_const, and_true, true_and] at hd
          refine ⟨?_⟩
          simp only [fill, hd]
          clear hd
          go_wp2
          exact ⟨rfl, rfl, Below.refl _ _, trivial⟩
        · intro V w' hb hd
          simp only [DepFacts, SC2o, Region.binds, forall_const, and_true, true_and] at hd
          refine ⟨?_⟩
          simp only [fill, hd]
          clear hd
          go_wp2
          exact ⟨rfl, rfl, Below.refl _ _, trivial⟩
        · intro V w' hb hd
          simp only [DepFacts, SC2o, Region.binds, forall_const, and_true, true_and] at hd
          refine ⟨?_⟩
          simp only [fill, hd]
          clear hd
          go_wp2
          exact ⟨rfl, rfl, Below.refl _ _, trivial⟩
        · intro V w' hb hd
          simp only [DepFacts, SC2o, Region.binds, forall_const, and_true] at hd
          refine ⟨?_⟩
          simp only [fill, hd]
          clear hd
          go_wp2
          exact ⟨rfl, rfl, Below.refl _ _, trivial⟩
        · intro V w' hb hd
          simp only [DepFacts, SC2o, Region.binds, forall_const, and_true, true_and] at hd
          refine ⟨?_⟩
          simp only [fill, hd]
          clear hd
          go_wp2
          exact ⟨rfl, rfl, Below.refl _ _, trivial⟩
        · intro V w' hb hd
          simp only [DepFacts, SC2o, Region.binds, forall_const, and_true, true_and] at hd
          refine ⟨?_⟩
          simp only [fill, hd]
          clear hd
          go_wp2
          exact ⟨rfl, rfl, Below.refl _ _, trivial⟩
        · intro V w' hb hd
          simp only [DepFacts, SC2o, Region.binds, forall_const, and_true, true_and] at hd
          refine ⟨?_⟩
          simp only [fill, hd]
          clear hd
          go_wp2
          exact ⟨rfl, rfl, Below.refl _ _, trivial⟩
        · intro V w' hb hd
          simp only [DepFacts, SC2o, Region.binds, forall_const, and_true] at hd
          refine ⟨?_⟩
          simp only [fill, hd]
          clear hd
          go_wp2
          exact ⟨rfl, rfl, Below.refl _ _, rfl⟩
      · intro V w12 hb12 hV
        simp only [SFacts, SC2o] at hV
        have h15 := hV.2.2.2.2.2.2.2.2.2.2.2.2.2.2.2.1
        clear hV
        simp only [fill, h15]
        clear h15
        try simp only [Exit.then]
        try go_simp
        have hB12 := below_step (below_drew hBr) hb12
        have hB12w := below_step hb1 hB12
        go_upto_region 5 with (fail)
        refine wp_region_each (by kernel_rfl) (by kernel_rfl) (by kernel_rfl) (fun w w' => Below w.heap.size w w') (fun w => Below.refl _ _) (fun x y z h1 h2 => below_step h1 h2) (SC5o A k c k) (SC5o_stays _ _ _ _) ?_ ?_
        · simp only [EachStep]
          refine ⟨?_, ?_, ?_, ?_, ?_, ?_, ?_, ?_, ?_, ?_, ?_, ?_, ?_, ?_, ?_, ?_, trivial⟩
          · intro V w' hb hd
            clear hd
            refine ⟨?_⟩
            simp only [fill]
            go_wp2
            exact ⟨rfl, rfl, Below.refl _ _, rfl⟩
          · intro V w' hb hd
            clear hd
            refine ⟨?_⟩
            simp only [fill]
            go_wp2
            exact ⟨rfl, rfl, Below.refl _ _, rfl⟩
          · intro V w' hb hd
            simp only [DepFacts, SC5o, Region.binds, forall_const, and_true] at hd
            refine ⟨?_⟩
            simp only [fill, hd]
            clear hd
            go_wp2
            exact ⟨rfl, rfl, Below.refl _ _, rfl⟩
          · intro V w' hb hd
            simp only [DepFacts, SC5o, Region.binds, forall_const, and_true] at hd
            refine ⟨?_⟩
            simp only [fill, hd]
            clear hd
            go_wp2
            exact ⟨rfl, rfl, Below.refl _ _, rfl⟩
          · intro V w' hb hd
            simp only [DepFacts, SC5o, Region.binds, forall_const, and_true] at hd
            refine ⟨?_⟩
            simp only [fill, hd]
            clear hd
            go_wp2
            exact ⟨rfl, rfl, Below.refl _ _, rfl⟩
          · intro V w' hb hd
            simp only [DepFacts, SC5o, Region.binds, forall_const, and_true] at hd
            refine ⟨?_⟩
            simp only [fill, hd]
            clear hd
            go_wp2
            exact ⟨rfl, rfl, Below.refl _ _, trivial⟩
          · intro V w' hb hd
            simp only [DepFacts, SC5o, Region.binds, forall_const, and_true] at hd
            refine ⟨?_⟩
            simp only [fill, hd]
            clear hd
            go_wp2
            exact ⟨rfl, rfl, Below.refl _ _, trivial⟩
          · intro V w' hb hd
            simp only [DepFacts, SC5o, Region.binds, forall_const, and_true, true_and] at hd
            refine ⟨?_⟩
            simp only [fill, hd]
            clear hd
            go_wp2
            exact ⟨rfl, rfl, Below.refl _ _, trivial⟩
          · intro V w' hb hd
            simp only [DepFacts, SC5o, Region.binds, forall_const, and_true, true_and] at hd
            refine ⟨?_⟩
            simp only [fill, hd]
            clear hd
            go_wp2
            exact ⟨rfl, rfl, Below.refl _ _, trivial⟩
          · intro V w' hb hd
            simp only [DepFacts, SC5o, Region.binds, forall_const, and_true, true_and] at hd
            refine ⟨?_⟩
            simp only [fill, hd]
            clear hd
            go_wp2
            exact ⟨rfl, rfl, Below.refl _ _, trivial⟩
          · intro V w' hb hd
            simp only [DepFacts, SC5o, Region.binds, forall_const, and_true, true_and] at hd
            refine ⟨?_⟩
            simp only [fill, hd]
            clear hd
            go_wp2
            exact ⟨rfl, rfl, Below.refl _ _, trivial⟩
          · intro V w' hb hd
            simp only [DepFacts, SC5o, Region.binds, forall_const, and_true] at hd
            refine ⟨?_⟩
            simp only [fill, hd]
            clear hd
            go_wp2
            exact ⟨rfl, rfl, Below.refl _ _, trivial⟩
          · intro V w' hb hd
            simp only [DepFacts, SC5o, Region.binds, forall_const, and_true, true_and] at hd
            refine ⟨?_⟩
            simp only [fill, hd]
            clear hd
            go_wp2
            exact ⟨rfl, rfl, Below.refl _ _, trivial⟩
          · intro V w' hb hd
            simp only [DepFacts, SC5o, Region.binds, forall_const, and_true, true_and] at hd
            refine ⟨?_⟩
            simp only [fill, hd]
            clear hd
            go_wp2
            exact ⟨rfl, rfl, Below.refl _ _, trivial⟩
          · intro V w' hb hd
            simp only [DepFacts, SC5o, Region.binds, forall_const, and_true, true_and] at hd
            refine ⟨?_⟩
            simp only [fill, hd]
            clear hd
            go_wp2
            exact ⟨rfl, rfl, Below.refl _ _, trivial⟩
          · intro V w' hb hd
            simp only [DepFacts, SC5o, Region.binds, forall_const, and_true] at hd
            refine ⟨?_⟩
            simp only [fill, hd]
            clear hd
            go_wp2
            exact ⟨rfl, rfl, Below.refl _ _, rfl⟩
        · intro V w13 hb13 hV
          simp only [SFacts, SC5o] at hV
          have h15 := hV.2.2.2.2.2.2.2.2.2.2.2.2.2.2.2.1
          clear hV
          simp only [fill, h15]
          clear h15
          try simp only [Exit.then]
          try go_simp
          have hB13 := below_step (below_drew hB12) hb13
          have hB13w := below_step hb1 hB13
          have hBx := hB13
          have hBwx := hB13w
          have hset0 := Lib.hid (fun q => set_at (tail := k) hP (key := o.key) q (by have := HPL.out; omega) hlo (fun p h => by rw [List.getElem?_eq_none (by have := HPL.out; omega)] at h; cases h) (.inl ⟨rfl, (fun p h => by rw [List.getElem?_eq_none (by have := HPL.out; omega)] at h; cases h)⟩))
          cases dl
          · -- there
            have hcutK := cutp_h hTP A k c (kh := .i64) (hi' := (k : Nat)) (hi := k) rfl (by omega)
            obtain ⟨A10, hcut10, hcutR⟩ := cutp_l hTP A k c (kl := .i64) (lo' := (k : Int)) (lo := k) rfl (by omega) (by omega)
            obtain ⟨m10, hm10⟩ : ∃ m, m = k - k := ⟨_, rfl⟩
            obtain ⟨c10, hc10⟩ : ∃ m, m = c - k := ⟨_, rfl⟩
            rw [← hm10, ← hc10] at hcut10
            replace hm10 := Lib.hid hm10
            clear hc10
            have hrd7 := (HG5.out.2.ext hBwx).take (k * 2)
            have hszx := hBx.size
            go_upto_region 8 with (first
              | (at_builtin; refine wpList_append_rd _ rfl (.const (.slice none 0 0)) (.tmp 47) _ rfl w1.heap.size _ _ 2 48 hTP _ _ _ rfl (World.ownsRow_nil _ _ _ _) A k c (xs.take (k * 2)) rfl (by rw [List.length_take, HG5.out.1]; omega) hrd7 (fun u hu => pair_cells HXS.out u (List.mem_of_mem_take hu)) (by unfold maxLen; omega) (by omega) hszx ?_; intro v7 w7 ho7 hg7 hat7)
              | fail)
            rw [Nat.zero_add, List.nil_append] at ho7
            have hB7 := below_own hBx (World.ownsRow_nil _ w1.heap.size 51 2) (Nat.le_refl _) hg7 hszx
            have hBw7 := below_step hb1 hB7
            have y0 := HY0.out _ hB7
            clear hg7 hat7 hrd7
            have hset := Lib.hid (show setP P o.key o.left = P.take k ++ ((o.key, o.value) :: P.drop (k)) from by unfold Rec.left; rw [HDD.out]; exact hset0.out (some o.value))
            go_upto_region 9 with (fail)
            have hvq : ∀ x, v7.ownBlock = some x → w1.heap.size ≤ x ∧ x < w7.heap.size := fun x hx => ho7.lt x hx
            have hbx : ∀ x, v7.ownBlock = some x → w.heap.size < x := fun x hx => by have := (hvq x hx).1; omega
            have HY1g := Lib.hid (fun (w' : World) (hb : w7.drew.grownBy w' v7.ownBlock) => ((show Blk w7.drew _ _ _ from (hx1.ext hB7).drew).grown hb (fun e => by have := hbx _ e.symm; omega)).cellv (i := 1) rfl)
            have HY2g := Lib.hid (fun (w' : World) (hb : w7.drew.grownBy w' v7.ownBlock) => ((show Blk w7.drew _ _ _ from (hx1.ext hB7).drew).grown hb (fun e => by have := hbx _ e.symm; omega)).cellv (i := 2) rfl)
            have HB2g := Lib.hid (fun (w' : World) (hb : w7.drew.grownBy w' v7.ownBlock) => HKB.out _ ((below_drew hBw7).trans (grown_below hb (fun x hx => Nat.le_of_lt (hbx x hx)) (show w.heap.size ≤ w7.heap.size from hBw7.size))))
            have HB3g := Lib.hid (fun (w' : World) (hb : w7.drew.grownBy w' v7.ownBlock) => HVB.out _ ((below_drew hBw7).trans (grown_below hb (fun x hx => Nat.le_of_lt (hbx x hx)) (show w.heap.size ≤ w7.heap.size from hBw7.size))))
            have HVQ := Lib.hid (fun x hx => (hvq x hx).2)
            have hbq : w1.heap.size ≤ w7.heap.size := hB7.size
            obtain ⟨base, hbase⟩ : ∃ b, b = w1.heap.size := ⟨_, rfl⟩
            obtain ⟨q, hqq⟩ : ∃ q, q = w7.heap.size := ⟨_, rfl⟩
            have ho7' := ho7
            have hbq' := hbq
            rw [← hbase] at ho7' hbq'
            rw [← hqq] at hbq' HVQ
            refine wp_region_late 10 1 (by kernel_rfl) (by kernel_rfl) (by kernel_rfl) (fun w w' => w.grownBy w' v7.ownBlock) (fun _ => World.grownBy.refl _ _) (fun _ _ _ h k => h.trans k) (SSe w.heap.size q nk cK nv cV AK AV v7 o.key o.value) (SSe_stays w.heap.size q nk cK nv cV AK AV v7 o.key o.value HVQ.out) (JSe base q k nk nv (xs.take (k * 2)) v7 o.key o.value)
              ⟨fun _ => ho7', fun e => (by cases e), fun e => (by cases e), Nat.le_of_eq hqq⟩ ?_ ?_
            · have hbq := hbq'
              clear hx1 ho7 ho7' hvq hbx hbase hqq hBw7 hB7 y0
              simp only [PhStep]
              refine ⟨?_, ?_, ?_, ?_, ?_, ?_, ?_, ?_, ?_, ?_, ?_, trivial⟩
              · intro L V w' hb hj hl hdo hcl hd
                clear hdo hcl
                clear hd
                refine ⟨?_⟩
                simp only [fillX, ne_eq, Nat.reduceEqDiff, not_false_eq_true, not_true_eq_false, if_true, if_false]
                go_wp2
                exact ⟨⟨rfl, rfl, World.grownBy.refl _ _, rfl⟩, (JSe_far _ _ _ _ _ _ _ _ _ hj (by decide) (by decide))⟩
              · intro L V w' hb hj hl hdo hcl hd
                clear hdo hcl
                clear hd
                refine ⟨?_⟩
                simp only [fillX, ne_eq, Nat.reduceEqDiff, not_false_eq_true, not_true_eq_false, if_true, if_false]
                go_wp2
                exact ⟨⟨rfl, rfl, World.grownBy.refl _ _, rfl⟩, (JSe_far _ _ _ _ _ _ _ _ _ hj (by decide) (by decide))⟩
              · intro L V w' hb hj hl hdo hcl hd
                have q1 := HY1g.out _ hb
                clear hdo hcl
                simp only [DepFacts, SSe, Region.binds, forall_const, and_true] at hd
                refine ⟨?_⟩
                simp only [fillX, ne_eq, Nat.reduceEqDiff, not_false_eq_true, not_true_eq_false, if_true, if_false, hd]
                clear hd
                go_wp2
                exact ⟨⟨rfl, rfl, World.grownBy.refl _ _, rfl⟩, JSe_far _ _ _ _ _ _ _ _ _ hj (by decide) (by decide)⟩
              · intro L V w' hb hj hl hdo hcl hd
                have h9 : L 9 = false := Bool.eq_false_iff.2 fun e => by have := hcl 7 3 (by kernel_rfl) (hcl 8 7 (by kernel_rfl) (hcl 9 8 (by kernel_rfl) e)); rw [this] at hl; cases hl
                have h10 : L 10 = false := Bool.eq_false_iff.2 fun e => by have := hcl 10 9 (by kernel_rfl) e; rw [this] at h9; cases h9
                have ho9 := hj.1 h9
                have hq9 := hj.2.2.2
                have hby := HB2g.out _ hb
                clear hdo hcl
                simp only [DepFacts, SSe, Region.binds, forall_const, and_true] at hd
                refine ⟨?_⟩
                simp only [fillX, ne_eq, Nat.reduceEqDiff, not_false_eq_true, not_true_eq_false, if_true, if_false, hd]
                clear hd
                simp only [Act.put, List.setIfInBounds_toArray, List.set_cons_zero, List.set_cons_succ]
                go_wp2_with (first | (at_builtin; refine wpList_append_bytes rfl (.const (.slice none 0 0)) (.tmp 54) _ rfl w'.heap.size hTB (xs := []) rfl (World.ownsRow_nil _ _ _ _) rfl hby (by have := HNK.out; omega) (Nat.le_refl _) ?_; intro v2 w2 ho2 hg2 _; replace hg2 : World.grownBy w' w2 none := hg2) | fail)
                rw [List.nil_append, Nat.zero_add, HNK.out] at ho2
                obtain ⟨A2, c2, rfl, hby2⟩ := row_sl ho2
                have hg2' : w'.grownBy w2 (Value.ownBlock v7) := ⟨hg2.os, hg2.tape, hg2.output, hg2.size, fun k hk _ => hg2.block k hk (by simp)⟩
                refine ⟨⟨rfl, rfl, hg2', A2, c2, rfl, hby2, fun ad e => ?_⟩, JSe_new _ _ _ _ _ _ _ _ _ h9 h10 (by decide) (by decide) (ho9.kept hg2 (by cases v7.ownBlock <;> simp)) (Nat.le_trans hq9 hg2.size)⟩
                subst e
                exact ⟨Nat.le_trans hq9 (own_blk ho2).1, (own_blk ho2).2⟩
              · intro L V w' hb hj hl hdo hcl hd
                clear hdo hcl
                clear hd
                refine ⟨?_⟩
                simp only [fillX, ne_eq, Nat.reduceEqDiff, not_false_eq_true, not_true_eq_false, if_true, if_false]
                go_wp2
                exact ⟨⟨rfl, rfl, World.grownBy.refl _ _, rfl⟩, (JSe_far _ _ _ _ _ _ _ _ _ hj (by decide) (by decide))⟩
              · intro L V w' hb hj hl hdo hcl hd
                have q1 := HY2g.out _ hb
                clear hdo hcl
                simp only [DepFacts, SSe, Region.binds, forall_const, and_true] at hd
                refine ⟨?_⟩
                simp only [fillX, ne_eq, Nat.reduceEqDiff, not_false_eq_true, not_true_eq_false, if_true, if_false, hd]
                clear hd
                go_wp2
                exact ⟨⟨rfl, rfl, World.grownBy.refl _ _, rfl⟩, JSe_far _ _ _ _ _ _ _ _ _ hj (by decide) (by decide)⟩
              · intro L V w' hb hj hl hdo hcl hd
                have h9 : L 9 = false := Bool.eq_false_iff.2 fun e => by have := hcl 7 6 (by kernel_rfl) (hcl 8 7 (by kernel_rfl) (hcl 9 8 (by kernel_rfl) e)); rw [this] at hl; cases hl
                have h10 : L 10 = false := Bool.eq_false_iff.2 fun e => by have := hcl 10 9 (by kernel_rfl) e; rw [this] at h9; cases h9
                have ho9 := hj.1 h9
                have hq9 := hj.2.2.2
                have hby := HB3g.out _ hb
                clear hdo hcl
                simp only [DepFacts, SSe, Region.binds, forall_const, and_true] at hd
                refine ⟨?_⟩
                simp only [fillX, ne_eq, Nat.reduceEqDiff, not_false_eq_true, not_true_eq_false, if_true, if_false, hd]
                clear hd
                simp only [Act.put, List.setIfInBounds_toArray, List.set_cons_zero, List.set_cons_succ]
                go_wp2_with (first | (at_builtin; refine wpList_append_bytes rfl (.const (.slice none 0 0)) (.tmp 57) _ rfl w'.heap.size hTB (xs := []) rfl (World.ownsRow_nil _ _ _ _) rfl hby (by have := HNV.out; omega) (Nat.le_refl _) ?_; intro v2 w2 ho2 hg2 _; replace hg2 : World.grownBy w' w2 none := hg2) | fail)
                rw [List.nil_append, Nat.zero_add, HNV.out] at ho2
                obtain ⟨A2, c2, rfl, hby2⟩ := row_sl ho2
                have hg2' : w'.grownBy w2 (Value.ownBlock v7) := ⟨hg2.os, hg2.tape, hg2.output, hg2.size, fun k hk _ => hg2.block k hk (by simp)⟩
                refine ⟨⟨rfl, rfl, hg2', A2, c2, rfl, hby2, fun ad e => ?_⟩, JSe_new _ _ _ _ _ _ _ _ _ h9 h10 (by decide) (by decide) (ho9.kept hg2 (by cases v7.ownBlock <;> simp)) (Nat.le_trans hq9 hg2.size)⟩
                subst e
                exact ⟨Nat.le_trans hq9 (own_blk ho2).1, (own_blk ho2).2⟩
              · intro L V w' hb hj hl hdo hcl hd
                clear hdo hcl
                simp only [DepFacts, SSe, Region.binds, forall_const, and_true] at hd
                obtain ⟨⟨A', c', e3, hy3, hq3⟩, B', d', e6, hy6, hq6⟩ := hd
                refine ⟨?_⟩
                simp only [fillX, ne_eq, Nat.reduceEqDiff, not_false_eq_true, not_true_eq_false, if_true, if_false, e3, e6]
                go_wp2
                exact ⟨⟨rfl, rfl, World.grownBy.refl _ _, A', c', B', d', rfl, hy3, hy6, hq3, hq6⟩, JSe_far _ _ _ _ _ _ _ _ _ hj (by decide) (by decide)⟩
              · intro L V w' hb hj hl hdo hcl hd
                have h9 : L 9 = false := Bool.eq_false_iff.2 fun e => by have := hcl 9 8 (by kernel_rfl) e; rw [this] at hl; cases hl
                have h10 : L 10 = false := Bool.eq_false_iff.2 fun e => by have := hcl 10 9 (by kernel_rfl) e; rw [this] at h9; cases h9
                have ho9 := hj.1 h9
                have hq9 := hj.2.2.2
                clear hdo hcl
                simp only [DepFacts, SSe, Region.binds, forall_const, and_true] at hd
                obtain ⟨A', c', B', d', e7, hy3, hy6, hq3, hq6⟩ := hd
                refine ⟨?_⟩
                simp only [fillX, ne_eq, Nat.reduceEqDiff, not_false_eq_true, not_true_eq_false, if_true, if_false, e7]
                clear e7
                simp only [Act.put, List.setIfInBounds_toArray, List.set_cons_zero, List.set_cons_succ]
                go_wp2_with (first | (refine wpList_row_one rfl (.tmp 59) rfl hTP (by decide) (cs := #[.slice A' nk c', .slice B' nv d']) rfl rfl ?_; intro w7 hx7 hb7 hl7) | fail)
                have hg7 : w'.grownBy w7 (Value.ownBlock v7) := ⟨hb7.os, hb7.tape, hb7.output, hb7.size, fun k hk _ => hb7.block k hk⟩
                exact ⟨⟨rfl, rfl, hg7, w'.heap.size, A', c', B', d', rfl, hq9, hx7, hy3.ext hb7, hy6.ext hb7, fun ad e => ⟨(hq3 ad e).1, Nat.lt_of_lt_of_le (hq3 ad e).2 hb7.size⟩, fun ad e => ⟨(hq6 ad e).1, Nat.lt_of_lt_of_le (hq6 ad e).2 hb7.size⟩⟩, JSe_new _ _ _ _ _ _ _ _ _ h9 h10 (by decide) (by decide) (own_ext ho9 hb7) (Nat.le_trans hq9 hb7.size)⟩
              · intro L V w' hb hj hl hdo hcl hd
                have h10 : L 10 = false := Bool.eq_false_iff.2 fun e => by have := hcl 10 9 (by kernel_rfl) e; rw [this] at hl; cases hl
                have ho9 := hj.1 hl
                have hq9 := hj.2.2.2
                clear hdo hcl
                simp only [DepFacts, SSe, Region.binds, forall_const, and_true] at hd
                obtain ⟨hv0, g, A', c', B', d', e8, hqg, hx8, hy3, hy6, hq3, hq6⟩ : V 0 = v7 ∧ SSe w.heap.size q nk cK nv cV AK AV v7 o.key o.value 8 (V 8) w' := by first | exact ⟨hd.1, hd.2.1⟩ | exact ⟨hd.1, hd.2⟩ | exact ⟨hd.2.1, hd.1⟩ | exact ⟨hd.1, hd.2.2⟩
                clear hd
                refine ⟨?_⟩
                simp only [fillX, ne_eq, Nat.reduceEqDiff, not_false_eq_true, not_true_eq_false, if_true, if_false, hv0, e8]
                clear hv0 e8
                simp only [Act.put, List.setIfInBounds_toArray, List.set_cons_zero, List.set_cons_succ]
                go_wp2_with (first | (at_builtin; refine wpList_append_rd _ rfl (.tmp 52) (.tmp 60) _ rfl base _ _ 2 48 hTP _ _ _ rfl ho9 (some ⟨g, 0, none⟩) 1 1 [.slice A' nk c', .slice B' nv d'] rfl rfl hx8.rd (by intro u hu; simp only [List.mem_cons, List.not_mem_nil, or_false] at hu; rcases hu with rfl | rfl <;> rfl) (by unfold maxLen; omega) (by omega) (Nat.le_trans hbq hq9) ?_; intro v2 w2 ho2 hg2 hat2) | fail)
                have hlo : ∀ x, v7.ownBlock = some x → x < q := HVQ.out
                have hy3' := hy3.grownB hg2 (fun ad e => fun e' => by have := (hq3 ad e).1; have := hlo _ e'.symm; omega)
                have hy6' := hy6.grownB hg2 (fun ad e => fun e' => by have := (hq6 ad e).1; have := hlo _ e'.symm; omega)
                exact ⟨⟨rfl, rfl, hg2, trivial⟩, JSe_nine _ _ _ _ _ _ _ _ _ h10 ⟨A', c', B', d', ho2, hy3', hy6', fun ad e => apart_blk hat2 hlo (hq3 ad e), fun ad e => apart_blk hat2 hlo (hq6 ad e)⟩ (Nat.le_trans hq9 hg2.size)⟩
              · intro L V w' hb hj hl hdo hcl hd
                have h9 : L 9 = true := hdo 9 (by kernel_rfl)
                have hon := hj.2.1 h9
                have hq9 := hj.2.2.2
                clear hdo hcl hd
                refine ⟨?_⟩
                simp only [fillX, ne_eq, Nat.reduceEqDiff, not_false_eq_true, not_true_eq_false, if_true, if_false]
                go_wp2
                exact ⟨⟨rfl, rfl, World.grownBy.refl _ _, trivial⟩, JSe_ten _ _ _ _ _ _ _ _ _ h9 hon hq9⟩
            · intro L V w9 hL hb9 hs hj
              clear hs ho7' hbq'
              obtain ⟨AA, cc, BB, dd, ho9, hya, hyv, hna, hnv9⟩ := hj.2.2.1 (hL 10 (by decide))
              rw [hbase] at ho9
              clear hbase hqq
              have hB9 := below_own (show Below w1.heap.size w1 w7.drew from hB7.drew) (show w7.drew.ownsRow _ _ _ _ _ _ from ho7) (Nat.le_refl _) hb9 hbq
              clear hL hj
              simp only [fill]
              try simp only [Exit.then]
              try go_simp
              have hsz := hB9.size
              have hrd10 := hcutR _ _ HG5.out.1 (HG5.out.2.ext (below_step hb1 hB9))
              go_wp2_with (first
                | (at_builtin; refine wpList_append_rd _ rfl (.tmp 62) (.tmp 65) _ rfl w1.heap.size _ _ 2 48 hTP _ _ _ rfl ho9 A10 m10 c10 (xs.drop (k * 2)) rfl (by rw [List.length_drop, HG5.out.1, hm10.out, Nat.sub_mul]) hrd10 (fun u hu => pair_cells HXS.out u (List.mem_of_mem_drop hu)) (by have := hm10.out; unfold maxLen; omega) (by have := hm10.out; omega) hsz ?_; intro v10 w10 ho10 hg10 hat10)
                | fail)
              have hB10 := below_own hB9 ho9 (Nat.le_refl _) hg10 hsz
              have hBw10 := below_step hb1 hB10
              go_ret
              have hya10 := hya.grownB hg10 (fun ad e => fun e' => hna ad e e'.symm)
              have hyv10 := hyv.grownB hg10 (fun ad e => fun e' => hnv9 ad e e'.symm)
              have hrow := (((HXS.out.ext rPair_stays hBw10).take (m := k) (by have := HPL.out; omega)).append (RowC.one hya10 hyv10)).append ((HXS.out.ext rPair_stays hBw10).drop (m := k) (by have := HPL.out; omega))
              rw [List.append_assoc (P.take k), List.singleton_append] at hrow
              refine ⟨_, rfl, ?_, hBw10⟩
              rw [hset.out]
              exact slice_of_own ho10 (by have := hrow.1; have := ho10.1; omega) hrow.2
          · -- gone
            have hcutK := cutp_h hTP A k c (kh := .i64) (hi' := (k : Nat)) (hi := k) rfl (by omega)
            obtain ⟨A10, hcut10, hcutR⟩ := cutp_l hTP A k c (kl := .i64) (lo' := (k : Int)) (lo := k) rfl (by omega) (by omega)
            obtain ⟨m10, hm10⟩ : ∃ m, m = k - k := ⟨_, rfl⟩
            obtain ⟨c10, hc10⟩ : ∃ m, m = c - k := ⟨_, rfl⟩
            rw [← hm10, ← hc10] at hcut10
            replace hm10 := Lib.hid hm10
            clear hc10
            have hrd7 := (HG5.out.2.ext hBwx).take (k * 2)
            have hszx := hBx.size
            go_upto_region 8 with (first
              | (at_builtin; refine wpList_append_rd _ rfl (.const (.slice none 0 0)) (.tmp 47) _ rfl w1.heap.size _ _ 2 48 hTP _ _ _ rfl (World.ownsRow_nil _ _ _ _) A k c (xs.take (k * 2)) rfl (by rw [List.length_take, HG5.out.1]; omega) hrd7 (fun u hu => pair_cells HXS.out u (List.mem_of_mem_take hu)) (by unfold maxLen; omega) (by omega) hszx ?_; intro v7 w7 ho7 hg7 hat7)
              | fail)
            rw [Nat.zero_add, List.nil_append] at ho7
            have hB7 := below_own hBx (World.ownsRow_nil _ w1.heap.size 51 2) (Nat.le_refl _) hg7 hszx
            have hBw7 := below_step hb1 hB7
            have y0 := HY0.out _ hB7
            clear hg7 hat7 hrd7
            have hset := Lib.hid (show setP P o.key o.left = P.take k ++ P.drop (k) from by unfold Rec.left; rw [HDD.out]; exact hset0.out none)
            have hsz := hB7.size
            have hrd10 := hcutR _ _ HG5.out.1 (HG5.out.2.ext (below_step hb1 hB7))
            go_wp2_with (first
              | (at_builtin; refine wpList_append_rd _ rfl (.tmp 62) (.tmp 65) _ rfl w1.heap.size _ _ 2 48 hTP _ _ _ rfl ho7 A10 m10 c10 (xs.drop (k * 2)) rfl (by rw [List.length_drop, HG5.out.1, hm10.out, Nat.sub_mul]) hrd10 (fun u hu => pair_cells HXS.out u (List.mem_of_mem_drop hu)) (by have := hm10.out; unfold maxLen; omega) (by have := hm10.out; omega) hsz ?_; intro v10 w10 ho10 hg10 hat10)
              | fail)
            have hB10 := below_own hB7 ho7 (Nat.le_refl _) hg10 hsz
            have hBw10 := below_step hb1 hB10
            go_ret
            have hrow := ((HXS.out.ext rPair_stays hBw10).take (m := k) (by have := HPL.out; omega)).append ((HXS.out.ext rPair_stays hBw10).drop (m := k) (by have := HPL.out; omega))
            refine ⟨_, rfl, ?_, hBw10⟩
            rw [hset.out]
            exact slice_of_own ho10 (by have := hrow.1; have := ho10.1; omega) hrow.2
end Go.Mun

-- NetDone
namespace Go.Mun
open Go Go.RowKit Go.Proofs

theorem length_done (S : PL (List UInt8)) (l : List Rec) : (doneP S l).length ≤ S.length + l.length := by
  induction l generalizing S with
  | nil => exact Nat.le_refl _
  | cons o l ih =>
    have h1 := ih (setP S o.key o.left)
    have h2 := length_set S o.key o.left
    show (doneP (setP S o.key o.left) l).length ≤ _
    rw [List.length_cons]
    omega
/-- no change is too great for the walk -/
def Fit (l : List Rec) : Prop := ∀ o ∈ l, o.key.length ≤ 1000000 ∧ o.value.length ≤ 1000000
set_option maxRecDepth 100000 in
set_option maxHeartbeats 4000000 in
theorem Done_any (va vl : Value) (P : PL (List UInt8)) (l : List Rec) (w : World) (h : SliceOf 2 rPair w va P) (hl : SliceOf 3 rOp w vl l) (hP : Rises P) (hn : P.length + l.length ≤ 100000) (hf : Fit l) :
    Calls Try.prog 19 #[va, vl] w fun e w' => ∃ v', e = .returned v' ∧ SliceOf 2 rPair w' v' (doneP P l) ∧ Below w.heap.size w w' := by
  obtain ⟨A, n, c, xs, rfl, g1, g2, g3, g4, g5, g6⟩ := hl
  unfold maxLen at g4
  have HOP := Lib.hid (fun (i : Nat) (hi : i < n) (w' : World) (hb : Below w.heap.size w w') => op_at' (g5.ext hb) g1 g2 g6 hi)
  have HF := Lib.hid hf
  have HLN := Lib.hid (fun j => Nat.le_trans (length_done P (l.take j)) (show P.length + (l.take j).length ≤ 100000 by rw [List.length_take]; omega))
  have HTK := Lib.hid (show l.take n = l by rw [← g1]; exact List.take_length)
  have H0 := Lib.hid h
  clear hf g1 g2 g5 g6 hn h
  go_enter Try.func19, Try.ntmps19
  go_wp2
  go_loopw [0, 5] (fun vp iv wr => ∃ (j : Nat), j ≤ n ∧ iv = .int .i64 j ∧ SliceOf 2 rPair wr vp (doneP P (l.take j)) ∧ Below w.heap.size w wr) (fun _ iv _ => n - (RowKit.intOf iv).toNat)
  case atStart => exact ⟨0, Nat.zero_le _, rfl, H0.out, Below.refl _ _⟩
  case round =>
    obtain ⟨j, hj, rfl, hs, hBr⟩ := hrel
    by_cases hlt : j < n
    · obtain ⟨ad2, o, kv, vv, rfl, r0, r1, r2, hoi, hkb, hvb⟩ := HOP.out j hlt _ hBr
      have f2 : decide ((j : Int) < n) = true := decide_eq_true (by omega)
      have b3 : (0 : Int) ≤ j := by omega
      have b4 : (j : Int) < n := by omega
      have HFO := Lib.hid (HF.out o (List.mem_of_getElem? hoi))
      have HOB := Lib.hid (And.intro (hkb.ext hBr) (hvb.ext hBr))
      have HSN := Lib.hid (doneP_snoc P hoi)
      have HS := Lib.hid hs
      obtain ⟨AK, nk, cK, hkv, _⟩ := id hkb
      subst hkv
      obtain ⟨AV, nv, cV, hvv, _⟩ := id hvb
      subst hvv
      clear hkb hvb hoi hs
      go_wp2_with (first
        | (go_at_call 38; refine (setPair_any _ _ o AK AV nk cK nv cV _ HS.out (doneP_rises _ hP) (HLN.out j) HOB.out.1 HOB.out.2 HFO.out.1 HFO.out.2).mono ?_; rintro e w4 ⟨v4, rfl, hs4, hb4⟩)
        | fail)
      have hB4 := below_step hBr hb4
      go_roundw
      case rel => exact ⟨j + 1, by omega, by go_num, by rw [HSN.out]; exact hs4, hB4⟩
      case measure => simp [RowKit.intOf]; omega
    · obtain rfl : j = n := by omega
      have f1 : decide ((j : Int) < j) = false := decide_eq_false (by omega)
      rw [HTK.out] at hs
      go_wp2
      go_ret
      exact ⟨_, rfl, hs, hBr⟩
/-- no batch is too great for the walk -/
def FitL (LL : List (List Rec)) : Prop := ∀ l ∈ LL, l.length ≤ 100 ∧ Fit l
theorem length_live {LL : List (List Rec)} (h : FitL LL) : (liveP LL).length ≤ 100 * LL.length := by
  suffices ∀ (LL : List (List Rec)) (S : PL (List UInt8)), FitL LL → (LL.foldl doneP S).length ≤ S.length + 100 * LL.length by
    have := this LL [] h
    unfold liveP
    simpa using this
  intro LL
  induction LL with
  | nil => intro S _; exact Nat.le_refl _
  | cons l LL ih =>
    intro S h
    have h1 := ih (doneP S l) fun m hm => h m (by simp [hm])
    have h2 := length_done S l
    have h3 := (h l (by simp)).1
    rw [List.length_cons]
    show (LL.foldl doneP (doneP S l)).length ≤ _
    omega
end Go.Mun

-- NetNet
namespace Go.Mun
open Go Go.RowKit Go.Proofs

/-- the elements of a map of changes -/
def TOp (w : World) (T : PL (Value × Rec)) (S : PL Rec) : Prop := mapP (·.2) T = S ∧ ∀ p ∈ T, ∃ kv vv, p.2.1 = .agg #[.bool p.2.2.del, kv, vv] ∧ Bytes w kv p.2.2.key ∧ Bytes w vv p.2.2.value ∧ p.2.2.key = p.1 ∧ p.1.length ≤ maxLen ∧ p.2.2.value.length ≤ 1000000 ∧ vv.oneCell' = true
theorem TOp.nil (w : World) : TOp w [] [] := ⟨rfl, fun p h => by cases h⟩
theorem TOp.put {w : World} {T : PL (Value × Rec)} {S : PL Rec} (h : TOp w T S) {o : Rec} {kv vv : Value} (hk : Bytes w kv o.key) (hu : Bytes w vv o.value) (hkl : o.key.length ≤ maxLen) (hv : o.value.length ≤ 1000000) : TOp w (setP T o.key (some (.agg #[.bool o.del, kv, vv], o))) (setP S o.key (some o)) := by
  refine ⟨by rw [mapP_set, h.1]; rfl, fun p hp => ?_⟩
  rcases mem_setP hp with h' | ⟨v, e, rfl⟩
  · exact h.2 p h'
  · injection e with e
    subst e
    refine ⟨kv, vv, rfl, hk, hu, rfl, hkl, hv, ?_⟩
    obtain ⟨_, _, _, e, _⟩ := hu
    rw [e]
    rfl
theorem TOp.rises {w : World} {T : PL (Value × Rec)} {S : PL Rec} (h : TOp w T S) (hS : Rises S) : Rises T := rises_of_map (by rw [h.1]; exact hS)

end Go.Mun

-- NetRef
namespace Go.Mun
open Go Go.RowKit Go.Proofs

theorem length_net (l : List Rec) : (netP l).length ≤ l.length := by
  suffices ∀ (l : List Rec) (S : PL Rec), (l.foldl (fun P o => setP P o.key (some o)) S).length ≤ S.length + l.length by
    have := this l []
    unfold netP
    simpa using this
  intro l
  induction l with
  | nil => intro S; exact Nat.le_refl _
  | cons o l ih =>
    intro S
    have h1 := ih (setP S o.key (some o))
    have h2 := length_set S o.key (some o)
    rw [List.length_cons]
    show (List.foldl _ (setP S o.key (some o)) l).length ≤ _
    omega
section
variable (q kk m : Nat) (cells xs : List Value) {L : Nat → Bool} {V : Nat → Value} {w : World} {v : Value}
end
end Go.Mun

-- RecRef
namespace Go.Mun
open Go Go.RowKit Go.Proofs

theorem and255 (n : Int) : bits .and .i64 n 255 = n % 256 := i64_and_mask n 8 255 (by omega) rfl

set_option maxHeartbeats 400000 in
theorem rfour_any (n : Int) (k : Nat) (w : World) (hn : n = k) :
    Calls Try.prog 70 #[.int .i64 n] w fun e w' => ∃ v, e = .returned v ∧ w'.ownsRow w.heap.size 5 1 v 4 (bv (fourB k)) ∧ Below w.heap.size w w' := by
  subst hn
  have hc : bv (fourB k) = #[Value.int .u8 ((k : Int) / 16777216 % 256), .int .u8 ((k : Int) / 65536 % 256), .int .u8 ((k : Int) / 256 % 256), .int .u8 ((k : Int) % 256)].toList := by
    rw [fourB_cells]
    rfl
  have HC := Lib.hid hc
  clear hc
  have a1 := and255 ((k : Int) / 16777216)
  have a2 := and255 ((k : Int) / 65536)
  have a3 := and255 ((k : Int) / 256)
  have a4 := and255 (k : Int)
  go_enter Try.func70, Try.ntmps70
  go_wp2
  go_ret
  exact ⟨_, rfl, by rw [HC.out]; exact own_new w _ _ rfl (by simp [maxLen]), (Below.refl _ _).alloc (Nat.le_refl _) _⟩
/-- what 'PackRecord' answers -/
def PackPost (r : Rec) (w : World) (e : Ending) (w' : World) : Prop := Below w.heap.size w w' ∧
  ((r.err ≠ 0 ∧ e = .returned (.tuple #[.slice none 0 0, .int .i64 r.err])) ∨
    (r.err = 0 ∧ ∃ v, e = .returned (.tuple #[v, .int .i64 0]) ∧ w'.ownsRow w.heap.size 5 1 v r.bytes.length (bv r.bytes)))
theorem packPost_ok {r : Rec} {w w' : World} {v : Value} {n : Nat} {l : List UInt8} (hB : Below w.heap.size w w') (he : Hid (r.err = 0)) (hn : Hid (l = r.bytes)) (ho : w'.ownsRow w.heap.size 5 1 v n (bv l)) :
    PackPost r w (.returned (.tuple #[v, .int .i64 0])) w' := by
  refine ⟨hB, .inr ⟨he.out, v, rfl, ?_⟩⟩
  have hl : n = l.length := by have := ho.1; rw [bv_length] at this; omega
  rw [← hn.out, ← hl]
  exact ho

set_option maxRecDepth 100000 in
set_option maxHeartbeats 4000000 in
theorem PackRecord_any (r : Rec) (kv vv : Value) (w : World) (hk : Bytes w kv r.key) (hv : Bytes w vv r.value) (hn1 : -9223372036854775808 ≤ r.n) (hn2 : r.n ≤ 9223372036854775807) :
    Calls Try.prog 53 #[.agg #[.int .i64 r.kind, .bool r.del, kv, vv, .int .i64 r.n]] w (PackPost r w) := by
  obtain ⟨kind, del, key, value, n⟩ := r
  obtain ⟨A, m, c, rfl, k1, k2, k3, k4⟩ := id hk
  obtain ⟨B, m', c', rfl, v1, v2, v3, v4⟩ := id hv
  simp only at *
  have hT := bytesTyR
  unfold maxLen at k3 v3
  clear k4 v4
  by_cases e1 : kind = 1
  · subst e1
    have hend : Rec.isEnd ⟨1, del, key, value, n⟩ = false := isEnd_one
    by_cases c1 : 65536 < m
    · have HE := Lib.hid (show Rec.err ⟨1, del, key, value, n⟩ = 3 from err_long hend rfl (.inl (by simp only; omega)))
      have d1 : decide ((65536 : Int) < m) = true := decide_eq_true (by omega)
      have tok1 : True := trivial
      go_enter Try.func53, Try.ntmps53
      go_wp2_with (first | ((with_reducible refine gd_box ?_); have _t := tok1; refine wpList_box_agg rfl _ (.tmp 0) rfl rfl ?_; clear tok1; intro w1 hx1 hB hl1; have y0 := hx1.cellv (i := 0) rfl; have y1 := hx1.cellv (i := 1) rfl; have y2 := hx1.cellv (i := 2) rfl; have y3 := hx1.cellv (i := 3) rfl; have y4 := hx1.cellv (i := 4) rfl) | fail)
      go_ret2
      exact ⟨hB, .inl ⟨by rw [HE.out]; omega, ret_e HE.out⟩⟩
    · have d1 : decide ((65536 : Int) < m) = false := decide_eq_false (by omega)
      by_cases c2 : del = false ∧ 16777216 < m'
      · obtain ⟨rfl, c2⟩ := c2
        have HE := Lib.hid (show Rec.err ⟨1, false, key, value, n⟩ = 3 from err_long hend rfl (.inr ⟨rfl, by simp only; omega⟩))
        have d2 : decide ((16777216 : Int) < m') = true := decide_eq_true (by omega)
        have tok1 : True := trivial
        go_enter Try.func53, Try.ntmps53
        go_wp2_with (first | ((with_reducible refine gd_box ?_); have _t := tok1; refine wpList_box_agg rfl _ (.tmp 0) rfl rfl ?_; clear tok1; intro w1 hx1 hB hl1; have y0 := hx1.cellv (i := 0) rfl; have y1 := hx1.cellv (i := 1) rfl; have y2 := hx1.cellv (i := 2) rfl; have y3 := hx1.cellv (i := 3) rfl; have y4 := hx1.cellv (i := 4) rfl) | fail)
        go_ret2
        exact ⟨hB, .inl ⟨by rw [HE.out]; omega, ret_e HE.out⟩⟩
      · have HE := Lib.hid (show Rec.err ⟨1, del, key, value, n⟩ = 0 from err_fits hend rfl (by simp only; rw [k1, v1]; rintro (h | h); exact c1 h; exact c2 h))
        cases del
        · have HBd := Lib.hid (body_set (key := key) (value := value) hend)
          have d2 : decide ((16777216 : Int) < m') = false := decide_eq_false (by simp at c2; omega)
          have hm' : m' ≤ 16777216 := by simp at c2; omega
          clear c2
          have tok3 : True := trivial
          have tok1 : True := trivial
          go_enter Try.func53, Try.ntmps53
          go_wp2_with (first | ((with_reducible refine gd_box ?_); have _t := tok1; refine wpList_box_agg rfl _ (.tmp 0) rfl rfl ?_; clear tok1; intro w1 hx1 hB hl1; have y0 := hx1.cellv (i := 0) rfl; have y1 := hx1.cellv (i := 1) rfl; have y2 := hx1.cellv (i := 2) rfl; have y3 := hx1.cellv (i := 3) rfl; have y4 := hx1.cellv (i := 4) rfl) | fail)
          have ho4 := own_new_at (w := w1) (base := w.heap.size + 1) (g := w1.heap.size) (Nat.succ_le_of_lt hx1.lt) rfl 5 #[.int .u8 1, .int .u8 0] (n := 2) rfl (by simp [maxLen]) (xs := bv [1, 0]) rfl
          replace hB := hB.alloc hB.size (.cells #[.int .u8 1, .int .u8 0] 5)
          replace hx1 := hx1.alloc (.cells #[.int .u8 1, .int .u8 0] 5)
          clear y0 y1 y2 y3 y4
          have y2 := hx1.cellv (i := 2) rfl
          replace ho4 := own_drew ho4
          replace hx1 := hx1.drew
          replace hB := hB.drew
          go_region_held3 (fun w' => w'.cell? ⟨w.heap.size, 2, none⟩ = some (.slice A m c)) (first | go_keep | exact y2)
            (first
              | (go_at_call 70; refine (rfour_any _ m _ rfl).mono ?_; rintro e w3 ⟨vf, rfl, hof, hbf⟩; replace ho4 := own_ext ho4 hbf; replace hx1 := hx1.ext hbf; replace hB := below_step hB hbf; replace y2 := hx1.cellv (i := 2) rfl; have hyf := Bytes.own hof)
              | (have _t := tok3; refine step_append_bytes (by rfl) (.tmp 33) (.tmp 38) _ (by rfl) (w.heap.size + 1) hT (xs := [1, 0]) (by rfl) ho4 (by rfl) hyf (by rw [fourB_length]; omega) (Nat.succ_le_of_lt hx1.lt) ?_; clear tok3; intro v5 w5 ho5 hg5 hat5; have hn5 := own_far hx1.lt ho4 (Nat.lt_succ_self _); replace hx1 := hx1.grown hg5 hn5; replace hB := below_own hB (own_base ho4 (Nat.le_succ _)) (Nat.le_refl _) hg5 hB.size; replace y2 := hx1.cellv (i := 2) rfl)
              | (refine step_append_bytes (by rfl) (.tmp 39) (.tmp 42) _ (by rfl) (w.heap.size + 1) hT (xs := [1, 0] ++ fourB m) (by rfl) ho5 (by rfl) (hk.ext hB) (by rw [fourB_length]; omega) (Nat.succ_le_of_lt hx1.lt) ?_; intro v6 w6 ho6 hg6 hat6; have hn6 := own_far hx1.lt ho5 (Nat.lt_succ_self _); replace hx1 := hx1.grown hg6 hn6; replace hB := below_own hB (own_base ho5 (Nat.le_succ _)) (Nat.le_refl _) hg6 hB.size; replace y2 := hx1.cellv (i := 2) rfl))
          have y1 := hx1.cellv (i := 1) rfl
          have y3 := hx1.cellv (i := 3) rfl
          go_upto_region 17 with (at_builtin; refine wpList_append_bytes rfl (.tmp 48) (.tmp 51) _ rfl (w.heap.size + 1) hT rfl ho6 rfl (hv.ext hB) (by simp only [fourB_length]; omega) (Nat.succ_le_of_lt hx1.lt) ?_; intro vz wz hoz hgz hatz; replace hB := below_own hB (own_base ho6 (Nat.le_succ _)) (Nat.le_refl _) hgz hB.size; replace hoz := own_base hoz (Nat.le_succ w.heap.size))
          rw [← k1] at hoz
          obtain ⟨L, hL⟩ : ∃ L, L = List.length (Rec.body ⟨1, false, key, value, n⟩) := ⟨_, rfl⟩
          obtain ⟨bs, hbs⟩ : ∃ bs, bs = Rec.body ⟨1, false, key, value, n⟩ := ⟨_, rfl⟩
          have hLn : 2 + (fourB key.length).length + key.length + value.length = L := by rw [hL, HBd.out]; simp [fourB_length] <;> omega
          rw [← HBd.out, ← hbs, hLn] at hoz
          have hbd : L ≤ 16842758 := by rw [hL]; exact body_bd HE.out
          have HN := Lib.hid (show fourB L ++ fourB (crcSum bs).toNat ++ bs = Rec.bytes ⟨1, false, key, value, n⟩ from by rw [hL, hbs]; rfl)
          clear hLn hL hbs
          obtain ⟨AX, cX, rfl, hlX, hyX⟩ := own_slice hoz
          have hltX := fun ad (e : AX = some ad) => (hoz.lt ad.block (by rw [e]; rfl)).2
          clear hoz
          go_wp2_with fail
          refine (rfour_any _ L _ rfl).mono ?_
          rintro e w7 ⟨v7, rfl, ho7, hb7⟩
          have hne : ∀ ad, AX = some ad → some ad.block ≠ v7.ownBlock := fun ad e e' => by
            have h1 := hltX ad e
            have h2 := (ho7.lt _ e'.symm).1
            omega
          have hB7 := below_step hB hb7
          replace hyX := hyX.ext hb7
          have hyX' := hyX
          obtain ⟨_, _, _, ee, x1, x2, x3, x4⟩ := hyX'
          cases ee
          go_wp2_with fail
          refine (Crc_any AX L cX bs _ x1 x4 (by omega)).mono ?_
          rintro e w8 ⟨rfl, rfl⟩
          obtain ⟨q1, q2⟩ := crcSum_toNat bs
          go_wp2_with fail
          refine (rfour_any _ (crcSum bs).toNat _ q1.symm).mono ?_
          rintro e w9 ⟨v9, rfl, ho9, hb9⟩
          replace ho7 := own_base (own_ext ho7 hb9) hB.size
          have hB9 := below_step hB7 hb9
          replace hyX := hyX.ext hb9
          have hy9 := Bytes.own ho9
          have tok8 : True := trivial
          go_wp2_with (first
            | (at_builtin; have _t := tok8; refine wpList_append_bytes rfl (.tmp 70) (.tmp 73) _ rfl w.heap.size hT rfl ho7 rfl hy9 (by rw [fourB_length]; omega) hB9.size ?_; clear tok8; intro va wa hoa hga hata; have hBa := below_own hB9 ho7 (Nat.le_refl _) hga hB9.size; replace hyX := hyX.grownB hga hne)
            | (at_builtin; refine wpList_append_bytes rfl (.tmp 74) (.tmp 75) _ rfl w.heap.size hT rfl hoa rfl hyX (by simp only [fourB_length]; omega) hBa.size ?_; intro vb wb hob hgb hatb; have hBb := below_own hBa hoa (Nat.le_refl _) hgb hBa.size))
          go_ret2
          exact packPost_ok hBb HE HN hob
        · have HBd := Lib.hid (show Rec.body ⟨1, true, key, value, n⟩ = [1, 1] ++ fourB key.length ++ key from body_del hend)
          clear c2
          have tok3 : True := trivial
          have tok1 : True := trivial
          go_enter Try.func53, Try.ntmps53
          go_wp2_with (first | ((with_reducible refine gd_box ?_); have _t := tok1; refine wpList_box_agg rfl _ (.tmp 0) rfl rfl ?_; clear tok1; intro w1 hx1 hB hl1; have y0 := hx1.cellv (i := 0) rfl; have y1 := hx1.cellv (i := 1) rfl; have y2 := hx1.cellv (i := 2) rfl; have y3 := hx1.cellv (i := 3) rfl; have y4 := hx1.cellv (i := 4) rfl) | fail)
          have ho4 := own_new_at (w := w1) (base := w.heap.size + 1) (g := w1.heap.size) (Nat.succ_le_of_lt hx1.lt) rfl 5 #[.int .u8 1, .int .u8 1] (n := 2) rfl (by simp [maxLen]) (xs := bv [1, 1]) rfl
          replace hB := hB.alloc hB.size (.cells #[.int .u8 1, .int .u8 1] 5)
          replace hx1 := hx1.alloc (.cells #[.int .u8 1, .int .u8 1] 5)
          clear y0 y1 y2 y3 y4
          have y2 := hx1.cellv (i := 2) rfl
          replace ho4 := own_drew ho4
          replace hx1 := hx1.drew
          replace hB := hB.drew
          go_region_held3 (fun w' => w'.cell? ⟨w.heap.size, 2, none⟩ = some (.slice A m c)) (first | go_keep | exact y2)
            (first
              | (go_at_call 70; refine (rfour_any _ m _ rfl).mono ?_; rintro e w3 ⟨vf, rfl, hof, hbf⟩; replace ho4 := own_ext ho4 hbf; replace hx1 := hx1.ext hbf; replace hB := below_step hB hbf; replace y2 := hx1.cellv (i := 2) rfl; have hyf := Bytes.own hof)
              | (have _t := tok3; refine step_append_bytes (by rfl) (.tmp 33) (.tmp 38) _ (by rfl) (w.heap.size + 1) hT (xs := [1, 1]) (by rfl) ho4 (by rfl) hyf (by rw [fourB_length]; omega) (Nat.succ_le_of_lt hx1.lt) ?_; clear tok3; intro v5 w5 ho5 hg5 hat5; have hn5 := own_far hx1.lt ho4 (Nat.lt_succ_self _); replace hx1 := hx1.grown hg5 hn5; replace hB := below_own hB (own_base ho4 (Nat.le_succ _)) (Nat.le_refl _) hg5 hB.size; replace y2 := hx1.cellv (i := 2) rfl)
              | (refine step_append_bytes (by rfl) (.tmp 39) (.tmp 42) _ (by rfl) (w.heap.size + 1) hT (xs := [1, 1] ++ fourB m) (by rfl) ho5 (by rfl) (hk.ext hB) (by rw [fourB_length]; omega) (Nat.succ_le_of_lt hx1.lt) ?_; intro v6 w6 ho6 hg6 hat6; have hn6 := own_far hx1.lt ho5 (Nat.lt_succ_self _); replace hx1 := hx1.grown hg6 hn6; replace hB := below_own hB (own_base ho5 (Nat.le_succ _)) (Nat.le_refl _) hg6 hB.size; replace y2 := hx1.cellv (i := 2) rfl))
          have y1 := hx1.cellv (i := 1) rfl
          have y3 := hx1.cellv (i := 3) rfl
          replace ho6 := own_base ho6 (Nat.le_succ w.heap.size)
          rw [← k1] at ho6
          obtain ⟨L, hL⟩ : ∃ L, L = List.length (Rec.body ⟨1, true, key, value, n⟩) := ⟨_, rfl⟩
          obtain ⟨bs, hbs⟩ : ∃ bs, bs = Rec.body ⟨1, true, key, value, n⟩ := ⟨_, rfl⟩
          have hLn : 2 + (fourB key.length).length + key.length = L := by rw [hL, HBd.out]; simp [fourB_length] <;> omega
          rw [← HBd.out, ← hbs, hLn] at ho6
          have hbd : L ≤ 16842758 := by rw [hL]; exact body_bd HE.out
          have HN := Lib.hid (show fourB L ++ fourB (crcSum bs).toNat ++ bs = Rec.bytes ⟨1, true, key, value, n⟩ from by rw [hL, hbs]; rfl)
          clear hLn hL hbs
          obtain ⟨AX, cX, rfl, hlX, hyX⟩ := own_slice ho6
          have hltX := fun ad (e : AX = some ad) => (ho6.lt ad.block (by rw [e]; rfl)).2
          clear ho6
          go_wp2_with fail
          refine (rfour_any _ L _ rfl).mono ?_
          rintro e w7 ⟨v7, rfl, ho7, hb7⟩
          have hne : ∀ ad, AX = some ad → some ad.block ≠ v7.ownBlock := fun ad e e' => by
            have h1 := hltX ad e
            have h2 := (ho7.lt _ e'.symm).1
            omega
          have hB7 := below_step hB hb7
          replace hyX := hyX.ext hb7
          have hyX' := hyX
          obtain ⟨_, _, _, ee, x1, x2, x3, x4⟩ := hyX'
          cases ee
          go_wp2_with fail
          refine (Crc_any AX L cX bs _ x1 x4 (by omega)).mono ?_
          rintro e w8 ⟨rfl, rfl⟩
          obtain ⟨q1, q2⟩ := crcSum_toNat bs
          go_wp2_with fail
          refine (rfour_any _ (crcSum bs).toNat _ q1.symm).mono ?_
          rintro e w9 ⟨v9, rfl, ho9, hb9⟩
          replace ho7 := own_base (own_ext ho7 hb9) hB.size
          have hB9 := below_step hB7 hb9
          replace hyX := hyX.ext hb9
          have hy9 := Bytes.own ho9
          have tok8 : True := trivial
          go_wp2_with (first
            | (at_builtin; have _t := tok8; refine wpList_append_bytes rfl (.tmp 70) (.tmp 73) _ rfl w.heap.size hT rfl ho7 rfl hy9 (by rw [fourB_length]; omega) hB9.size ?_; clear tok8; intro va wa hoa hga hata; have hBa := below_own hB9 ho7 (Nat.le_refl _) hga hB9.size; replace hyX := hyX.grownB hga hne)
            | (at_builtin; refine wpList_append_bytes rfl (.tmp 74) (.tmp 75) _ rfl w.heap.size hT rfl hoa rfl hyX (by simp only [fourB_length]; omega) hBa.size ?_; intro vb wb hob hgb hatb; have hBb := below_own hBa hoa (Nat.le_refl _) hgb hBa.size))
          go_ret2
          exact packPost_ok hBb HE HN hob
  · have hk1 : Rec.isEnd ⟨kind, del, key, value, n⟩ = false → Rec.err ⟨kind, del, key, value, n⟩ = 1 := fun h => err_kind h e1
    have u1 : (kind == 1) = false := by rw [beq_eq_false_iff_ne]; exact e1
    by_cases e2 : kind = 2
    · subst e2
      by_cases n0 : n < 0
      · have HE := Lib.hid (hk1 (decide_eq_false (by simp only; omega)))
        have d1 : decide (n < 0) = true := decide_eq_true n0
        clear hk1
        have tok1 : True := trivial
        go_enter Try.func53, Try.ntmps53
        go_wp2_with (first | ((with_reducible refine gd_box ?_); have _t := tok1; refine wpList_box_agg rfl _ (.tmp 0) rfl rfl ?_; clear tok1; intro w1 hx1 hB hl1; have y0 := hx1.cellv (i := 0) rfl; have y1 := hx1.cellv (i := 1) rfl; have y2 := hx1.cellv (i := 2) rfl; have y3 := hx1.cellv (i := 3) rfl; have y4 := hx1.cellv (i := 4) rfl) | fail)
        go_ret2
        exact ⟨hB, .inl ⟨by rw [HE.out]; omega, ret_e HE.out⟩⟩
      · have d1 : decide (n < 0) = false := decide_eq_false n0
        by_cases n1 : 2147483647 < n
        · have HE := Lib.hid (hk1 (decide_eq_false (by simp only; omega)))
          have d2 : decide (2147483647 < n) = true := decide_eq_true n1
          clear hk1
          have tok1 : True := trivial
          go_enter Try.func53, Try.ntmps53
          go_wp2_with (first | ((with_reducible refine gd_box ?_); have _t := tok1; refine wpList_box_agg rfl _ (.tmp 0) rfl rfl ?_; clear tok1; intro w1 hx1 hB hl1; have y0 := hx1.cellv (i := 0) rfl; have y1 := hx1.cellv (i := 1) rfl; have y2 := hx1.cellv (i := 2) rfl; have y3 := hx1.cellv (i := 3) rfl; have y4 := hx1.cellv (i := 4) rfl) | fail)
          go_ret2
          exact ⟨hB, .inl ⟨by rw [HE.out]; omega, ret_e HE.out⟩⟩
        · have HE := Lib.hid (err_end del key value n (by omega) (by omega))
          have d2 : decide (2147483647 < n) = false := decide_eq_false n1
          have HBd := Lib.hid (body_end del key value n (by omega) (by omega))
          obtain ⟨j, rfl⟩ := Int.eq_ofNat_of_zero_le (by omega : 0 ≤ n)
          clear hk1 u1
          have tok1 : True := trivial
          go_enter Try.func53, Try.ntmps53
          go_wp2_with (first | ((with_reducible refine gd_box ?_); have _t := tok1; refine wpList_box_agg rfl _ (.tmp 0) rfl rfl ?_; clear tok1; intro w1 hx1 hB hl1; have y0 := hx1.cellv (i := 0) rfl; have y1 := hx1.cellv (i := 1) rfl; have y2 := hx1.cellv (i := 2) rfl; have y3 := hx1.cellv (i := 3) rfl; have y4 := hx1.cellv (i := 4) rfl) | fail)
          have ho4 := own_new_at (w := w1) (base := w.heap.size) (g := w1.heap.size) (Nat.le_of_lt hx1.lt) rfl 5 #[.int .u8 2] (n := 1) rfl (by simp [maxLen]) (xs := bv [2]) rfl
          replace hB := hB.alloc hB.size (.cells #[.int .u8 2] 5)
          refine (rfour_any _ j _ rfl).mono ?_
          rintro e w3 ⟨vf, rfl, hof, hbf⟩
          replace ho4 := own_ext ho4 hbf
          replace hB := below_step hB hbf
          have hyf := Bytes.own hof
          go_upto_region 17 with (at_builtin; refine wpList_append_bytes rfl (.tmp 63) (.tmp 66) _ rfl w.heap.size hT rfl ho4 rfl hyf (by simp only [fourB_length]; omega) hB.size ?_; intro vz wz hoz hgz hatz; replace hB := below_own hB ho4 (Nat.le_refl _) hgz hB.size)
          have ej : [2] ++ fourB j = 2 :: fourB (j : Int).toNat := rfl
          rw [ej] at hoz
          clear ej
          obtain ⟨L, hL⟩ : ∃ L, L = List.length (Rec.body ⟨2, del, key, value, (j : Int)⟩) := ⟨_, rfl⟩
          obtain ⟨bs, hbs⟩ : ∃ bs, bs = Rec.body ⟨2, del, key, value, (j : Int)⟩ := ⟨_, rfl⟩
          have hLn : 1 + (fourB j).length = L := by rw [hL, HBd.out]; simp [fourB_length] <;> omega
          rw [← HBd.out, ← hbs, hLn] at hoz
          have hbd : L ≤ 16842758 := by rw [hL]; exact body_bd HE.out
          have HN := Lib.hid (show fourB L ++ fourB (crcSum bs).toNat ++ bs = Rec.bytes ⟨2, del, key, value, (j : Int)⟩ from by rw [hL, hbs]; rfl)
          clear hLn hL hbs
          obtain ⟨AX, cX, rfl, hlX, hyX⟩ := own_slice hoz
          have hltX := fun ad (e : AX = some ad) => (hoz.lt ad.block (by rw [e]; rfl)).2
          clear hoz
          go_wp2_with fail
          refine (rfour_any _ L _ rfl).mono ?_
          rintro e w7 ⟨v7, rfl, ho7, hb7⟩
          have hne : ∀ ad, AX = some ad → some ad.block ≠ v7.ownBlock := fun ad e e' => by
            have h1 := hltX ad e
            have h2 := (ho7.lt _ e'.symm).1
            omega
          have hB7 := below_step hB hb7
          replace hyX := hyX.ext hb7
          have hyX' := hyX
          obtain ⟨_, _, _, ee, x1, x2, x3, x4⟩ := hyX'
          cases ee
          go_wp2_with fail
          refine (Crc_any AX L cX bs _ x1 x4 (by omega)).mono ?_
          rintro e w8 ⟨rfl, rfl⟩
          obtain ⟨q1, q2⟩ := crcSum_toNat bs
          go_wp2_with fail
          refine (rfour_any _ (crcSum bs).toNat _ q1.symm).mono ?_
          rintro e w9 ⟨v9, rfl, ho9, hb9⟩
          replace ho7 := own_base (own_ext ho7 hb9) hB.size
          have hB9 := below_step hB7 hb9
          replace hyX := hyX.ext hb9
          have hy9 := Bytes.own ho9
          have tok8 : True := trivial
          go_wp2_with (first
            | (at_builtin; have _t := tok8; refine wpList_append_bytes rfl (.tmp 70) (.tmp 73) _ rfl w.heap.size hT rfl ho7 rfl hy9 (by rw [fourB_length]; omega) hB9.size ?_; clear tok8; intro va wa hoa hga hata; have hBa := below_own hB9 ho7 (Nat.le_refl _) hga hB9.size; replace hyX := hyX.grownB hga hne)
            | (at_builtin; refine wpList_append_bytes rfl (.tmp 74) (.tmp 75) _ rfl w.heap.size hT rfl hoa rfl hyX (by simp only [fourB_length]; omega) hBa.size ?_; intro vb wb hob hgb hatb; have hBb := below_own hBa hoa (Nat.le_refl _) hgb hBa.size))
          go_ret2
          exact packPost_ok hBb HE HN hob
    · have HE := Lib.hid (hk1 (decide_eq_false (by simp only; omega)))
      have u2 : (kind == 2) = false := by rw [beq_eq_false_iff_ne]; exact e2
      clear hk1
      have tok1 : True := trivial
      go_enter Try.func53, Try.ntmps53
      go_wp2_with (first | ((with_reducible refine gd_box ?_); have _t := tok1; refine wpList_box_agg rfl _ (.tmp 0) rfl rfl ?_; clear tok1; intro w1 hx1 hB hl1; have y0 := hx1.cellv (i := 0) rfl; have y1 := hx1.cellv (i := 1) rfl; have y2 := hx1.cellv (i := 2) rfl; have y3 := hx1.cellv (i := 3) rfl; have y4 := hx1.cellv (i := 4) rfl) | fail)
      go_ret2
      exact ⟨hB, .inl ⟨by rw [HE.out]; omega, ret_e HE.out⟩⟩
end Go.Mun

-- RpAlive
namespace Go.Mun
open Go Go.RowKit Go.Proofs

theorem bytes13 {n : Int} (h0 : 0 ≤ n) (h1 : n ≤ 2147483647) : (⟨2, false, [], [], n⟩ : Rec).bytes.length = 13 := by
  rw [bytes_length, body_end _ _ _ _ h0 h1]
  simp [fourB_length]
set_option maxRecDepth 100000 in
theorem Batch_nil (w : World) : Calls Try.prog 32 #[.slice none 0 0] w fun e w' => ∃ A c, e = .returned (.tuple #[.slice A 13 c, .int .i64 0]) ∧ Below w.heap.size w w' := by
  have hT := bytesTyR
  have H13 := Lib.hid (bytes13 (n := 0) (by omega) (by omega))
  have HE := Lib.hid (err_end (key := []) (value := []) (del := false) (n := 0) (by omega) (by omega))
  go_enter Try.func32, Try.ntmps32
  go_wp2
  go_loopw [4, 13] (fun vo i wr => vo = .slice none 0 0 ∧ i = .int .i64 0 ∧ wr = w) (fun _ _ _ => 0)
  case atStart => exact ⟨rfl, rfl, rfl⟩
  case round =>
    obtain ⟨rfl, rfl, rfl⟩ := hrel
    go_wp2_with (first
      | (go_at_call 47; refine (Pack_ok ⟨2, false, [], [], 0⟩ _ _ _ (Bytes.nil _) (Bytes.nil _) (by simp) (by simp) HE.out).mono ?_; rintro e w3 ⟨v3, rfl, hb3, ho3⟩; rw [H13.out] at ho3)
      | (at_builtin; refine wpList_append_bytes rfl (.tmp 43) (.tmp 44) _ rfl wr.heap.size hT (xs := []) rfl (own_zero _ _) rfl (Bytes.own ho3) (by rw [H13.out]; omega) hb3.size ?_; intro v4 w4 ho4 hg4 hat4)
      | fail)
    go_ret2
    rw [H13.out, Nat.zero_add] at ho4
    obtain ⟨A, c, rfl⟩ := own_sl ho4
    exact ⟨A, c, rfl, below_own hb3 (own_zero _ _) (Nat.le_refl _) hg4 hb3.size⟩
end Go.Mun

-- RpBatch
namespace Go.Mun
open Go Go.RowKit Go.Proofs

/-- one change of a row, whole -/
theorem op_full {w w' : World} {A : Option Addr} {n : Nat} {xs : List Value} {rs : List Rec} (hr : Rd w' A xs) (hl : rs.length = n) (hx : xs.length = n * 3) (hb : ∀ i (h : i < rs.length), rOp w (chunk xs 3 i) rs[i]) {k : Nat} (hk : k < n) :
    ∃ (ad : Addr) (r : Rec) (kv vv : Value), A = some ad ∧ w'.cell? (ad.add (k * 3)) = some (.bool r.del) ∧ w'.cell? ⟨(ad.add (k * 3)).block, (ad.add (k * 3)).off + 1, none⟩ = some kv ∧ w'.cell? ⟨(ad.add (k * 3)).block, (ad.add (k * 3)).off + 2, none⟩ = some vv ∧
      rs[k]? = some r ∧ r.kind = 1 ∧ r.n = 0 ∧ Bytes w kv r.key ∧ Bytes w vv r.value := by
  have hc : (chunk xs 3 k).length = 3 := by unfold chunk; rw [List.length_take, List.length_drop]; omega
  obtain ⟨kv, vv, e, h1, h2, h3, h4⟩ := hb k (by omega) hc
  have hg : ∀ j, j < 3 → xs[k * 3 + j]? = (chunk xs 3 k)[j]? := fun j hj => by
    unfold chunk
    rw [List.getElem?_take, if_pos hj, List.getElem?_drop]
  obtain ⟨ad, rfl, c0⟩ := hr (k * 3) _ (by have := hg 0 (by omega); rw [Nat.add_zero] at this; rw [this, e]; rfl)
  obtain ⟨ad', e1, c1⟩ := hr (k * 3 + 1) kv (by rw [hg 1 (by omega), e]; rfl)
  obtain ⟨ad'', e2, c2⟩ := hr (k * 3 + 2) vv (by rw [hg 2 (by omega), e]; rfl)
  injection e1 with e1
  injection e2 with e2
  subst e1 e2
  rw [add_beside _ _ (by omega)] at c1 c2
  exact ⟨_, rs[k], kv, vv, rfl, c0, c1, c2, List.getElem?_eq_getElem (by omega), h1, h2, h3, h4⟩
theorem take_more {l : List Rec} {k : Nat} {r : Rec} (h : l[k]? = some r) : l.take (k + 1) = l.take k ++ [r] := by
  obtain ⟨hk, hx⟩ := List.getElem?_eq_some_iff.1 h
  rw [List.take_succ_eq_append_getElem hk, hx]

set_option maxRecDepth 100000 in
set_option maxHeartbeats 1000000 in
theorem Big_any (v : Value) (l : List Rec) (w : World) (h : SliceOf 3 rOp w v l) :
    Calls Try.prog 27 #[v] w fun e w' => ∃ B, e = .returned (.bool B) ∧ w = w' ∧ (B = false ↔ SmallL l) := by
  obtain ⟨A, n, c, xs, rfl, g1, g2, g3, g4, g5, g6⟩ := h
  unfold maxLen at g4
  by_cases c1 : 60 < n
  · have d1 : decide ((60 : Int) < n) = true := decide_eq_true (by omega)
    go_enter Try.func27, Try.ntmps27
    go_wp2
    go_ret
    exact ⟨true, rfl, rfl, (fun e => by cases e), fun h => by have := h.1; omega⟩
  · have d1 : decide ((60 : Int) < n) = false := decide_eq_false (by omega)
    have HX := Lib.hid (fun k (hk : k < n) => op_full g5 g1 g2 g6 hk)
    have HL := Lib.hid g1
    clear g1 g2 g5 g6
    go_enter Try.func27, Try.ntmps27
    go_wp2
    go_loopw [3] (fun i wr => ∃ k : Nat, k ≤ n ∧ i = .int .i64 k ∧ wr = w ∧ ∀ j r, j < k → l[j]? = some r → OpOk r) (fun i _ => n - (RowKit.intOf i).toNat)
    case atStart => exact ⟨0, Nat.zero_le _, rfl, rfl, fun j r h => by omega⟩
    case round =>
      obtain ⟨k, hk, rfl, rfl, hall⟩ := hrel
      by_cases hlt : k < n
      · obtain ⟨ad, r, kv, vv, rfl, q0, q1, q2, hr, hr1, hr2, hbk, hbv⟩ := HX.out k hlt
        obtain ⟨AK, m, cK, rfl, k1, k2, k3, k4⟩ := hbk
        obtain ⟨AV, m', cV, rfl, v1, v2, v3, v4⟩ := hbv
        clear k4 v4
        unfold maxLen at k3 v3
        have HK := Lib.hid k1
        have HV := Lib.hid v1
        have HR := Lib.hid (And.intro hr (And.intro hr1 hr2))
        have HA := Lib.hid hall
        clear k1 v1 hr hr1 hr2 hall
        by_cases e1 : 300 < m
        · have f1 : decide ((300 : Int) < m) = true := decide_eq_true (by omega)
          go_wp2
          go_ret
          exact ⟨true, rfl, rfl, (fun e => by cases e), fun h => by have := (h.2 r (List.mem_of_getElem? HR.out.1)).key; rw [HK.out] at this; omega⟩
        · have f1 : decide ((300 : Int) < m) = false := decide_eq_false (by omega)
          by_cases e2 : 300 < m'
          · have f2 : decide ((300 : Int) < m') = true := decide_eq_true (by omega)
            go_wp2
            go_ret
            exact ⟨true, rfl, rfl, (fun e => by cases e), fun h => by have := (h.2 r (List.mem_of_getElem? HR.out.1)).value; rw [HV.out] at this; omega⟩
          · have f2 : decide ((300 : Int) < m') = false := decide_eq_false (by omega)
            go_wp2
            go_roundw
            case rel =>
              have hall2 : ∀ j x, j < k + 1 → l[j]? = some x → OpOk x := by
                intro j x hj hx
                by_cases hjk : j < k
                · exact HA.out j x hjk hx
                · obtain rfl : j = k := by omega
                  rw [HR.out.1] at hx
                  injection hx with hx
                  subst hx
                  exact ⟨HR.out.2.1, HR.out.2.2, by rw [HK.out]; omega, by rw [HV.out]; omega⟩
              first
                | exact ⟨k + 1, by omega, by go_num, rfl, hall2⟩
                | exact ⟨k + 1, by omega, by go_num, trivial, hall2⟩
                | ((repeat apply Exists.intro); exact ⟨⟨k + 1, by omega, by go_num, rfl, hall2⟩, rfl⟩)
            case measure => simp [RowKit.intOf]; omega
      · obtain rfl : k = n := by omega
        have HA := Lib.hid hall
        clear hall
        go_wp2
        go_ret
        refine ⟨false, rfl, rfl, (fun _ => ⟨by rw [HL.out]; omega, fun r hr => ?_⟩), fun _ => rfl⟩
        obtain ⟨j, hj, hx⟩ := List.getElem_of_mem hr
        exact HA.out j r (by rw [HL.out] at hj; exact hj) (by rw [List.getElem?_eq_getElem hj, hx])

theorem Big_no (v : Value) (l : List Rec) (w : World) (h : SliceOf 3 rOp w v l) (hs : SmallL l) :
    Calls Try.prog 27 #[v] w fun e w' => e = .returned (.bool false) ∧ w = w' := by
  refine (Big_any v l w h).mono ?_
  rintro e w' ⟨B, rfl, rfl, hB⟩
  rw [hB.2 hs]
  exact ⟨rfl, rfl⟩
theorem Big_yes (v : Value) (l : List Rec) (w : World) (h : SliceOf 3 rOp w v l) (hs : ¬ SmallL l) :
    Calls Try.prog 27 #[v] w fun e w' => e = .returned (.bool true) ∧ w = w' := by
  refine (Big_any v l w h).mono ?_
  rintro e w' ⟨B, rfl, rfl, hB⟩
  cases B with
  | false => exact absurd (hB.1 rfl) hs
  | true => exact ⟨rfl, rfl⟩
theorem PackRecord_ok (r : Rec) (kv vv : Value) (w : World) (hk : Bytes w kv r.key) (hv : Bytes w vv r.value) (hn1 : -9223372036854775808 ≤ r.n) (hn2 : r.n ≤ 9223372036854775807) (he : r.err = 0) :
    Calls Try.prog 53 #[.agg #[.int .i64 r.kind, .bool r.del, kv, vv, .int .i64 r.n]] w fun e w' => ∃ v, e = .returned (.tuple #[v, .int .i64 0]) ∧ Below w.heap.size w w' ∧
      w'.ownsRow w.heap.size 5 1 v r.bytes.length (bv r.bytes) := by
  refine (PackRecord_any r kv vv w hk hv hn1 hn2).mono ?_
  rintro e w' ⟨hb, ⟨h0, _⟩ | ⟨_, v, rfl, ho⟩⟩
  · exact absurd he h0
  · exact ⟨v, rfl, hb, ho⟩
theorem row_b {w : World} {B : Nat} {e : TypeId} {v : Value} {a b c : List UInt8} (h : w.ownsRow B e 1 v (a.length + b.length) (bv (a ++ b))) (hc : c = a ++ b) : w.ownsRow B e 1 v c.length (bv c) := by
  subst hc
  rw [List.length_append]
  exact h

set_option maxRecDepth 100000 in
set_option maxHeartbeats 1000000 in
theorem RefBatch_ok (v : Value) (l : List Rec) (w : World) (h : SliceOf 3 rOp w v l) (hs : SmallL l) :
    Calls Try.prog 37 #[v] w fun e w' => ∃ v', e = .returned (.tuple #[v', .int .i64 0]) ∧ w'.ownsRow w.heap.size 5 1 v' (batchB l).length (bv (batchB l)) ∧ Below w.heap.size w w' := by
  have hT := bytesTyR
  obtain ⟨A, n, c, xs, rfl, g1, g2, g3, g4, g5, g6⟩ := h
  unfold maxLen at g4
  have HS := Lib.hid hs
  have h60 : n ≤ 60 := by have := hs.1; omega
  have HX := Lib.hid (fun w' (hB : Below w.heap.size w w') k (hk : k < n) => op_full (g5.ext hB) g1 g2 g6 hk)
  have HL := Lib.hid g1
  have HT := Lib.hid (show l.take n = l from List.take_of_length_le (by omega))
  have HE := Lib.hid (endR_err (n := n) (by omega))
  have HEL := Lib.hid (endR_len (n := n) (by omega))
  have HBD := Lib.hid (fun k => opsB_bd (l := l.take k) (fun r hr => hs.2 r (List.mem_of_mem_take hr)))
  have d1 : decide ((100000 : Int) < n) = false := decide_eq_false (by omega)
  clear g1 g2 g5 g6 hs
  go_enter Try.func37, Try.ntmps37
  go_wp2
  go_loopw [4, 5] (fun vo i wr => ∃ k : Nat, k ≤ n ∧ i = .int .i64 k ∧ Below w.heap.size w wr ∧ wr.ownsRow w.heap.size 5 1 vo (opsB (l.take k)).length (bv (opsB (l.take k)))) (fun _ i _ => n - (RowKit.intOf i).toNat)
  case atStart => exact ⟨0, Nat.zero_le _, rfl, Below.refl _ _, own_zero _ _⟩
  case round =>
    obtain ⟨k, hk, rfl, hBr, hor⟩ := hrel
    have hbd : (opsB (l.take k)).length ≤ 42000 := by have := HBD.out k; rw [List.length_take] at this; omega
    by_cases hlt : k < n
    · obtain ⟨ad, r, kv, vv, rfl, q0, q1, q2, hr, hr1, hr2, hbk, hbv⟩ := HX.out wr hBr k hlt
      have hro : OpOk r := HS.out.2 r (List.mem_of_getElem? hr)
      have HRE := Lib.hid hro.err
      have hrl := hro.len
      have HTM := Lib.hid (show opsB (l.take (k + 1)) = opsB (l.take k) ++ r.bytes by rw [take_more hr, opsB_append]; simp [opsB])
      obtain ⟨kind, del, key, value, nn⟩ := r
      simp only at hr1 hr2 hbk hbv q0
      subst hr1 hr2
      obtain ⟨AK, m, cK, rfl, _⟩ := id hbk
      obtain ⟨AV, m', cV, rfl, _⟩ := id hbv
      have HKV := Lib.hid (And.intro hbk hbv)
      clear hro hr hbk hbv
      go_wp2_with (first
        | (go_at_call 53; refine (PackRecord_ok ⟨1, del, key, value, 0⟩ _ _ _ (HKV.out.1.ext hBr) (HKV.out.2.ext hBr) (by simp) (by simp) HRE.out).mono ?_; rintro e w3 ⟨v3, rfl, hb3, ho3⟩; have hB3 := below_step hBr hb3; have hor3 := own_ext hor hb3)
        | (at_builtin; refine wpList_append_bytes rfl (.tmp 31) (.tmp 32) _ rfl w.heap.size hT rfl hor3 rfl (Bytes.own ho3) (by omega) hB3.size ?_; intro v4 w4 ho4 hg4 hat4; have hB4 := below_own hB3 hor3 (Nat.le_refl _) hg4 hB3.size)
        | fail)
      go_roundw
      case rel => exact ⟨k + 1, by omega, by go_num, hB4, row_b ho4 HTM.out⟩
      case measure => simp [RowKit.intOf]; omega
    · obtain rfl : k = n := by omega
      rw [HT.out] at hor hbd
      go_wp2_with (first
        | (go_at_call 53; refine (PackRecord_ok (endR k) _ _ _ (Bytes.nil _) (Bytes.nil _) (by show (-9223372036854775808 : Int) ≤ (k : Int); omega) (by show (k : Int) ≤ 9223372036854775807; omega) HE.out).mono ?_; rintro e w3 ⟨v3, rfl, hb3, ho3⟩; have hB3 := below_step hBr hb3; have hor3 := own_ext hor hb3)
        | (at_builtin; refine wpList_append_bytes rfl (.tmp 41) (.tmp 42) _ rfl w.heap.size hT rfl hor3 rfl (Bytes.own ho3) (by rw [HEL.out]; omega) hB3.size ?_; intro v4 w4 ho4 hg4 hat4; have hB4 := below_own hB3 hor3 (Nat.le_refl _) hg4 hB3.size)
        | fail)
      go_ret2
      exact ⟨_, rfl, row_b ho4 (by unfold batchB; rw [HL.out]), hB4⟩
/-- two lists in a row -/
theorem two_rows {w : World} {g : Nat} {e : TypeId} {v u : Value} {l m : List Rec} (hb : Blk w g e #[v, u]) (h1 : SliceOf 3 rOp w v l) (h2 : SliceOf 3 rOp w u m) : SliceOf 1 (rSlice 3 rOp) w (.slice (some ⟨g, 0, none⟩) 2 2) [l, m] := by
  refine ⟨_, 2, 2, [v, u], rfl, rfl, rfl, Nat.le_refl _, by unfold maxLen; omega, hb.rd, fun i hi => ?_⟩
  match i, hi with
  | 0, _ => exact ⟨v, rfl, h1⟩
  | 1, _ => exact ⟨u, rfl, h2⟩
theorem same_pair {a b c d : List Rec} (h1 : SameL a c) (h2 : SameL b d) : SameLL [a, b] [c, d] := by
  refine ⟨rfl, fun k x y hx hy => ?_⟩
  match k, hx, hy with
  | 0, hx, hy => simp at hx hy; subst hx hy; exact h1
  | 1, hx, hy => simp at hx hy; subst hx hy; exact h2
  | k + 2, hx, _ => simp at hx
open Go.ChangeShapes Go.WideShapes Go.ChangeAt in
theorem opens_ops {H : Type} (enc : TypeId × Value → H) : Opens enc Try.prog 0 (fun _ => true) true 33 (rSlice 3 rOp) := opens_slice enc 0 (fun _ => true) true Try.underlying33 (by kernel_rfl) (opens_op enc)
end Go.Mun

