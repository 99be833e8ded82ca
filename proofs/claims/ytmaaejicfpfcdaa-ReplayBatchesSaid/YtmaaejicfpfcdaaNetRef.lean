/- The document's Net: of changes those that are left. -/
import Derived.Test.YtmaaejicfpfcdaaNetDone
import Derived.Test.YtmaaejicfpfcdaaNetNet
import Derived.Test.YtmaaejicfpfcdaaPut
namespace Go.Mun
open Go Go.RowKit Go.Proofs

theorem row_cap {w : World} {base size n c : Nat} {e : TypeId} {A : Option Addr} {xs : List Value} (h : w.ownsRow base e size (.slice A n c) n xs) : n ≤ c := by
  rcases h.2 with ⟨e1, e2⟩ | ⟨g, cap, cur, e1, _, _, hc, _⟩
  · omega
  · injection e1 with e1 e2 e3; omega
theorem row_most {w : World} {base size n c : Nat} {e : TypeId} {A : Option Addr} {xs : List Value} (h : w.ownsRow base e size (.slice A n c) n xs) : c ≤ 9223372036854775807 := by
  rcases h.2 with ⟨e1, e2⟩ | ⟨g, cap, cur, e1, _, _, _, hm, _⟩
  · injection e1 with e1 e2 e3; omega
  · injection e1 with e1 e2 e3; unfold maxLen at hm; omega
theorem ops_cells {w : World} {xs : List Value} {l : List Rec} (h : RowC 3 rOp w xs l) : ∀ u ∈ xs, u.oneCell' = true := by
  intro u hu
  obtain ⟨i, hi, e⟩ := List.mem_iff_getElem.1 hu
  have hl : i / 3 < l.length := by have := h.1; omega
  have hc : (chunk xs 3 (i / 3)).length = 3 := by unfold chunk; rw [List.length_take, List.length_drop, h.1]; omega
  obtain ⟨kv, vv, e2, _, _, h1, h2⟩ := h.2 (i / 3) hl hc
  have hx : (chunk xs 3 (i / 3))[i % 3]? = some u := by
    unfold chunk
    rw [List.getElem?_take, if_pos (Nat.mod_lt _ (by omega)), List.getElem?_drop, show i / 3 * 3 + i % 3 = i from by omega, List.getElem?_eq_getElem hi, e]
  rw [e2] at hx
  obtain ⟨_, _, _, ek, _⟩ := h1
  obtain ⟨_, _, _, ev, _⟩ := h2
  have h01 : i % 3 = 0 ∨ i % 3 = 1 ∨ i % 3 = 2 := by omega
  rcases h01 with h0 | h0 | h0
  · rw [h0] at hx
    injection hx with hx
    rw [← hx]
    rfl
  · rw [h0] at hx
    injection hx with hx
    rw [← hx, ek]
    rfl
  · rw [h0] at hx
    injection hx with hx
    rw [← hx, ev]
    rfl
theorem net_row {w : World} {co : List Value} {P : PL Rec} {o : Rec} {kv vv : Value} {k tail : Nat} (h : RowC 3 rOp w co (P.map (·.2))) (hk : k ≤ P.length) (ht : tail ≤ P.length) (h1 : Bytes w kv o.key) (h2 : Bytes w vv o.value) (ho : o.kind = 1 ∧ o.n = 0) :
    RowC 3 rOp w (co.take (k * 3) ++ [.bool o.del, kv, vv] ++ co.drop (tail * 3)) ((P.take k ++ (((some o).map fun v => (o.key, v)).toList ++ P.drop tail)).map (·.2)) := by
  have e : (P.take k ++ (((some o).map fun v => (o.key, v)).toList ++ P.drop tail)).map (·.2) = (P.map (·.2)).take k ++ [o] ++ (P.map (·.2)).drop tail := by
    simp [List.map_take, List.map_drop]
  rw [e]
  have hone : RowC 3 rOp w [.bool o.del, kv, vv] [o] := by
    have := (RowC.nil 3 rOp w).more (ds := [.bool o.del, kv, vv]) (x := o) rfl (fun _ => ⟨kv, vv, rfl, ho.1, ho.2, h1, h2⟩)
    simpa using this
  exact ((h.take (by rw [List.length_map]; exact hk)).append hone).append (h.drop (by rw [List.length_map]; exact ht))
theorem ops_kind {w : World} {xs : List Value} {l : List Rec} (h : RowC 3 rOp w xs l) : ∀ o ∈ l, o.kind = 1 ∧ o.n = 0 := by
  intro o ho
  obtain ⟨i, hi, rfl⟩ := List.mem_iff_getElem.1 ho
  have hc : (chunk xs 3 i).length = 3 := by unfold chunk; rw [List.length_take, List.length_drop, h.1]; omega
  obtain ⟨_, _, _, h1, h2, _⟩ := h.2 i hi hc
  exact ⟨h1, h2⟩
theorem length_net (l : List Rec) : (netP l).length ≤ l.length := by
  suffices ∀ (l : List Rec) (S : PL Rec), (l.foldl (fun P o => setP P o.key (some o)) S).length ≤ S.length + l.length by
    have := this l []
    unfold netP
    simpa using this
  intro l
  induction l with
  | nil => intro S; exact Nat.le_refl _
  | cons o l ih =>
    intro S
    have h1 := ih (setP S o.key (some o))
    have h2 := length_set S o.key (some o)
    rw [List.length_cons]
    show (List.foldl _ (setP S o.key (some o)) l).length ≤ _
    omega
/-- what each operation of the region writes -/
def SN6i (ad1 ad2 : Addr) (m c1 n c2 k j : Nat) (x1 x2 : Value) (pk key : List UInt8) (res : Bool) : Nat → Value → World → Prop
  | 0, v, _ => v = .int .i64 (k : Nat)
  | 1, v, _ => v = .slice (some ad1) m c1
  | 2, v, _ => v = .int .i64 (m : Nat)
  | 3, v, _ => v = .bool true
  | 4, v, _ => v = .bool true
  | 5, v, _ => v = .slice (some ad1) m c1
  | 6, v, _ => v = .int .i64 (k : Nat)
  | 7, v, _ => v = .pointer (some (ad1.add (k * 3)))
  | 8, v, _ => v = .pointer (some ⟨(ad1.add (k * 3)).block, (ad1.add (k * 3)).off + 1, none⟩)
  | 9, v, _ => v = x1
  | 10, v, _ => v = .string ⟨pk.toArray⟩
  | 11, v, _ => v = .slice (some ad2) n c2
  | 12, v, _ => v = .int .i64 (j : Nat)
  | 13, v, _ => v = .pointer (some (ad2.add (j * 3)))
  | 14, v, _ => v = .pointer (some ⟨(ad2.add (j * 3)).block, (ad2.add (j * 3)).off + 1, none⟩)
  | 15, v, _ => v = x2
  | 16, v, _ => v = .string ⟨key.toArray⟩
  | 17, v, _ => v = .bool res
  | _, v, _ => v = .bool res
theorem SN6i_stays (ad1 ad2 : Addr) (m c1 n c2 k j : Nat) (x1 x2 : Value) (pk key : List UInt8) (res : Bool) : ∀ i v (wa wb : World), Below wa.heap.size wa wb → SN6i ad1 ad2 m c1 n c2 k j x1 x2 pk key res i v wa → SN6i ad1 ad2 m c1 n c2 k j x1 x2 pk key res i v wb
  | 0, _, _, _, _, h => h
  | 1, _, _, _, _, h => h
  | 2, _, _, _, _, h => h
  | 3, _, _, _, _, h => h
  | 4, _, _, _, _, h => h
  | 5, _, _, _, _, h => h
  | 6, _, _, _, _, h => h
  | 7, _, _, _, _, h => h
  | 8, _, _, _, _, h => h
  | 9, _, _, _, _, h => h
  | 10, _, _, _, _, h => h
  | 11, _, _, _, _, h => h
  | 12, _, _, _, _, h => h
  | 13, _, _, _, _, h => h
  | 14, _, _, _, _, h => h
  | 15, _, _, _, _, h => h
  | 16, _, _, _, _, h => h
  | 17, _, _, _, _, h => h
  | _ + 18, _, _, _, _, h => h
/-- what each operation of the region writes -/
def SN6o (A : Option Addr) (m c1 k : Nat) : Nat → Value → World → Prop
  | 0, v, _ => v = .int .i64 (k : Nat)
  | 1, v, _ => v = .slice A m c1
  | 2, v, _ => v = .int .i64 (m : Nat)
  | 3, v, _ => v = .bool false
  | 4, v, _ => v = .bool false
  | 5, _, _ => True
  | 6, _, _ => True
  | 7, _, _ => True
  | 8, _, _ => True
  | 9, _, _ => True
  | 10, _, _ => True
  | 11, _, _ => True
  | 12, _, _ => True
  | 13, _, _ => True
  | 14, _, _ => True
  | 15, _, _ => True
  | 16, _, _ => True
  | 17, _, _ => True
  | _, v, _ => v = .bool false
theorem SN6o_stays (A : Option Addr) (m c1 k : Nat) : ∀ i v (wa wb : World), Below wa.heap.size wa wb → SN6o A m c1 k i v wa → SN6o A m c1 k i v wb
  | 0, _, _, _, _, h => h
  | 1, _, _, _, _, h => h
  | 2, _, _, _, _, h => h
  | 3, _, _, _, _, h => h
  | 4, _, _, _, _, h => h
  | 5, _, _, _, _, h => h
  | 6, _, _, _, _, h => h
  | 7, _, _, _, _, h => h
  | 8, _, _, _, _, h => h
  | 9, _, _, _, _, h => h
  | 10, _, _, _, _, h => h
  | 11, _, _, _, _, h => h
  | 12, _, _, _, _, h => h
  | 13, _, _, _, _, h => h
  | 14, _, _, _, _, h => h
  | 15, _, _, _, _, h => h
  | 16, _, _, _, _, h => h
  | 17, _, _, _, _, h => h
  | _ + 18, _, _, _, _, h => h
/-- what each operation of the region writes -/
def SN8i (ad1 ad2 : Addr) (m c1 n c2 k j : Nat) (x1 x2 : Value) (pk key : List UInt8) (res : Bool) : Nat → Value → World → Prop
  | 0, v, _ => v = .int .i64 (k : Nat)
  | 1, v, _ => v = .slice (some ad1) m c1
  | 2, v, _ => v = .int .i64 (m : Nat)
  | 3, v, _ => v = .bool true
  | 4, v, _ => v = .bool true
  | 5, v, _ => v = .slice (some ad1) m c1
  | 6, v, _ => v = .int .i64 (k : Nat)
  | 7, v, _ => v = .pointer (some (ad1.add (k * 3)))
  | 8, v, _ => v = .pointer (some ⟨(ad1.add (k * 3)).block, (ad1.add (k * 3)).off + 1, none⟩)
  | 9, v, _ => v = x1
  | 10, v, _ => v = .string ⟨pk.toArray⟩
  | 11, v, _ => v = .slice (some ad2) n c2
  | 12, v, _ => v = .int .i64 (j : Nat)
  | 13, v, _ => v = .pointer (some (ad2.add (j * 3)))
  | 14, v, _ => v = .pointer (some ⟨(ad2.add (j * 3)).block, (ad2.add (j * 3)).off + 1, none⟩)
  | 15, v, _ => v = x2
  | 16, v, _ => v = .string ⟨key.toArray⟩
  | 17, v, _ => v = .bool res
  | _, v, _ => v = .bool res
theorem SN8i_stays (ad1 ad2 : Addr) (m c1 n c2 k j : Nat) (x1 x2 : Value) (pk key : List UInt8) (res : Bool) : ∀ i v (wa wb : World), Below wa.heap.size wa wb → SN8i ad1 ad2 m c1 n c2 k j x1 x2 pk key res i v wa → SN8i ad1 ad2 m c1 n c2 k j x1 x2 pk key res i v wb
  | 0, _, _, _, _, h => h
  | 1, _, _, _, _, h => h
  | 2, _, _, _, _, h => h
  | 3, _, _, _, _, h => h
  | 4, _, _, _, _, h => h
  | 5, _, _, _, _, h => h
  | 6, _, _, _, _, h => h
  | 7, _, _, _, _, h => h
  | 8, _, _, _, _, h => h
  | 9, _, _, _, _, h => h
  | 10, _, _, _, _, h => h
  | 11, _, _, _, _, h => h
  | 12, _, _, _, _, h => h
  | 13, _, _, _, _, h => h
  | 14, _, _, _, _, h => h
  | 15, _, _, _, _, h => h
  | 16, _, _, _, _, h => h
  | 17, _, _, _, _, h => h
  | _ + 18, _, _, _, _, h => h
/-- what each operation of the region writes -/
def SN8o (A : Option Addr) (m c1 k : Nat) : Nat → Value → World → Prop
  | 0, v, _ => v = .int .i64 (k : Nat)
  | 1, v, _ => v = .slice A m c1
  | 2, v, _ => v = .int .i64 (m : Nat)
  | 3, v, _ => v = .bool false
  | 4, v, _ => v = .bool false
  | 5, _, _ => True
  | 6, _, _ => True
  | 7, _, _ => True
  | 8, _, _ => True
  | 9, _, _ => True
  | 10, _, _ => True
  | 11, _, _ => True
  | 12, _, _ => True
  | 13, _, _ => True
  | 14, _, _ => True
  | 15, _, _ => True
  | 16, _, _ => True
  | 17, _, _ => True
  | _, v, _ => v = .bool false
theorem SN8o_stays (A : Option Addr) (m c1 k : Nat) : ∀ i v (wa wb : World), Below wa.heap.size wa wb → SN8o A m c1 k i v wa → SN8o A m c1 k i v wb
  | 0, _, _, _, _, h => h
  | 1, _, _, _, _, h => h
  | 2, _, _, _, _, h => h
  | 3, _, _, _, _, h => h
  | 4, _, _, _, _, h => h
  | 5, _, _, _, _, h => h
  | 6, _, _, _, _, h => h
  | 7, _, _, _, _, h => h
  | 8, _, _, _, _, h => h
  | 9, _, _, _, _, h => h
  | 10, _, _, _, _, h => h
  | 11, _, _, _, _, h => h
  | 12, _, _, _, _, h => h
  | 13, _, _, _, _, h => h
  | 14, _, _, _, _, h => h
  | 15, _, _, _, _, h => h
  | 16, _, _, _, _, h => h
  | 17, _, _, _, _, h => h
  | _ + 18, _, _, _, _, h => h
/-- what each operation of the region writes -/
def SNt (A At : Option Addr) (ad2 : Addr) (m c1 n c2 k j mt ct : Nat) (del : Bool) (AK : Option Addr) (nk cK : Nat) (AV : Option Addr) (nv cV : Nat) : Nat → Value → World → Prop
  | 0, v, _ => v = .slice A m c1
  | 1, v, _ => v = .int .i64 (k : Nat)
  | 2, v, _ => v = .slice A k c1
  | 3, _, _ => True
  | 4, v, _ => v = .slice (some ad2) n c2
  | 5, v, _ => v = .int .i64 (j : Nat)
  | 6, v, _ => v = .pointer (some (ad2.add (j * 3)))
  | 7, v, _ => v = .agg #[.bool del, .slice AK nk cK, .slice AV nv cV]
  | 8, _, _ => True
  | 9, _, _ => True
  | 10, v, _ => v = .slice At mt ct
  | 11, _, _ => True
  | _, _, _ => True
theorem SNt_stays (q : Nat) (A At : Option Addr) (ad2 : Addr) (m c1 n c2 k j mt ct : Nat) (del : Bool) (AK : Option Addr) (nk cK : Nat) (AV : Option Addr) (nv cV : Nat) : ∀ i v (wa wb : World), Below q wa wb → SNt A At ad2 m c1 n c2 k j mt ct del AK nk cK AV nv cV i v wa → SNt A At ad2 m c1 n c2 k j mt ct del AK nk cK AV nv cV i v wb
  | 0, _, _, _, _, h => h
  | 1, _, _, _, _, h => h
  | 2, _, _, _, _, h => h
  | 3, _, _, _, _, h => h
  | 4, _, _, _, _, h => h
  | 5, _, _, _, _, h => h
  | 6, _, _, _, _, h => h
  | 7, _, _, _, _, h => h
  | 8, _, _, _, _, h => h
  | 9, _, _, _, _, h => h
  | 10, _, _, _, _, h => h
  | 11, _, _, _, _, h => h
  | _ + 12, _, _, _, _, h => h
/-- how far it has come -/
def JNt (q kk m : Nat) (cells xs : List Value) (L : Nat → Bool) (V : Nat → Value) (w : World) : Prop :=
  (L 3 = true → L 9 = false → w.ownsRow q 34 3 (V 3) kk (xs.take (kk * 3))) ∧
  (L 8 = true → L 9 = false → ∃ g, V 8 = .slice (some ⟨g, 0, none⟩) 1 1 ∧ Blk w g 34 cells.toArray) ∧
  (L 9 = true → L 11 = false → w.ownsRow q 34 3 (V 9) (kk + 1) (xs.take (kk * 3) ++ cells)) ∧
  (L 11 = true → w.ownsRow q 34 3 (V 11) (m + 1) (xs.take (kk * 3) ++ cells ++ xs.drop (kk * 3))) ∧
  (L 12 = true → w.ownsRow q 34 3 (V 12) (m + 1) (xs.take (kk * 3) ++ cells ++ xs.drop (kk * 3))) ∧ q ≤ w.heap.size
section
variable (q kk m : Nat) (cells xs : List Value) {L : Nat → Bool} {V : Nat → Value} {w : World} {v : Value}
theorem JNt_3 (h9 : L 9 = false) (h11 : L 11 = false) (h12 : L 12 = false) (ho : w.ownsRow q 34 3 v kk (xs.take (kk * 3))) (h8 : L 8 = true → ∃ g, V 8 = .slice (some ⟨g, 0, none⟩) 1 1 ∧ Blk w g 34 cells.toArray) (hq : q ≤ w.heap.size) : JNt q kk m cells xs (updL L 3) (upd V 3 v) w := by
  unfold JNt
  simp only [updL_same, upd_same, updL_ne (show (9 : Nat) ≠ 3 by decide), updL_ne (show (8 : Nat) ≠ 3 by decide), updL_ne (show (11 : Nat) ≠ 3 by decide), updL_ne (show (12 : Nat) ≠ 3 by decide), upd_ne (show (8 : Nat) ≠ 3 by decide), h9, h11, h12]
  exact ⟨fun _ _ => ho, fun e _ => h8 e, fun e => (by cases e), fun e => (by cases e), fun e => (by cases e), hq⟩
theorem JNt_8 (h9 : L 9 = false) (h11 : L 11 = false) (h12 : L 12 = false) (ho : L 3 = true → w.ownsRow q 34 3 (V 3) kk (xs.take (kk * 3))) (h8 : ∃ g, v = .slice (some ⟨g, 0, none⟩) 1 1 ∧ Blk w g 34 cells.toArray) (hq : q ≤ w.heap.size) : JNt q kk m cells xs (updL L 8) (upd V 8 v) w := by
  unfold JNt
  simp only [updL_same, upd_same, updL_ne (show (9 : Nat) ≠ 8 by decide), updL_ne (show (3 : Nat) ≠ 8 by decide), updL_ne (show (11 : Nat) ≠ 8 by decide), updL_ne (show (12 : Nat) ≠ 8 by decide), upd_ne (show (3 : Nat) ≠ 8 by decide), h9, h11, h12]
  exact ⟨fun e _ => ho e, fun _ _ => h8, fun e => (by cases e), fun e => (by cases e), fun e => (by cases e), hq⟩
theorem JNt_9 (h11 : L 11 = false) (h12 : L 12 = false) (ho : w.ownsRow q 34 3 v (kk + 1) (xs.take (kk * 3) ++ cells)) (hq : q ≤ w.heap.size) : JNt q kk m cells xs (updL L 9) (upd V 9 v) w := by
  unfold JNt
  simp only [updL_same, upd_same, updL_ne (show (11 : Nat) ≠ 9 by decide), updL_ne (show (12 : Nat) ≠ 9 by decide), h11, h12]
  exact ⟨fun _ e => (by cases e), fun _ e => (by cases e), fun _ _ => ho, fun e => (by cases e), fun e => (by cases e), hq⟩
theorem JNt_11 (h9 : L 9 = true) (h12 : L 12 = false) (ho : w.ownsRow q 34 3 v (m + 1) (xs.take (kk * 3) ++ cells ++ xs.drop (kk * 3))) (hq : q ≤ w.heap.size) : JNt q kk m cells xs (updL L 11) (upd V 11 v) w := by
  unfold JNt
  simp only [updL_same, upd_same, updL_ne (show (9 : Nat) ≠ 11 by decide), updL_ne (show (12 : Nat) ≠ 11 by decide), h9, h12]
  exact ⟨fun _ e => (by cases e), fun _ e => (by cases e), fun _ e => (by cases e), fun _ => ho, fun e => (by cases e), hq⟩
theorem JNt_12 (h9 : L 9 = true) (h11 : L 11 = true) (ho : w.ownsRow q 34 3 (V 11) (m + 1) (xs.take (kk * 3) ++ cells ++ xs.drop (kk * 3))) (hq : q ≤ w.heap.size) : JNt q kk m cells xs (updL L 12) (upd V 12 (V 11)) w := by
  unfold JNt
  simp only [updL_same, upd_same, updL_ne (show (9 : Nat) ≠ 12 by decide), updL_ne (show (11 : Nat) ≠ 12 by decide), upd_ne (show (11 : Nat) ≠ 12 by decide), h9, h11]
  exact ⟨fun _ e => (by cases e), fun _ e => (by cases e), fun _ e => (by cases e), fun _ => ho, fun _ => ho, hq⟩
end
theorem JNt_far (q kk m : Nat) (cells xs : List Value) {L : Nat → Bool} {V : Nat → Value} {w : World} (hJ : JNt q kk m cells xs L V w) {k : Nat} {v : Value} (h3 : (3 : Nat) ≠ k) (h8 : (8 : Nat) ≠ k) (h9 : (9 : Nat) ≠ k) (h11 : (11 : Nat) ≠ k) (h12 : (12 : Nat) ≠ k) : JNt q kk m cells xs (updL L k) (upd V k v) w := by
  unfold JNt at hJ ⊢
  simp only [updL_ne h3, updL_ne h8, updL_ne h9, updL_ne h11, updL_ne h12, upd_ne h3, upd_ne h8, upd_ne h9, upd_ne h11, upd_ne h12]
  exact hJ

set_option maxRecDepth 100000 in
set_option maxHeartbeats 16000000 in
theorem RefNet_any (v : Value) (l : List Rec) (w : World) (h : SliceOf 3 rOp w v l) (hn1 : l.length ≤ 100) :
    Calls Try.prog 39 #[v] w fun e w' => ∃ v', e = .returned v' ∧ SliceOf 3 rOp w' v' ((netP l).map (·.2)) ∧ Below w.heap.size w w' := by
  obtain ⟨A, n, c2, xs, rfl, g1, g2, g3, g4, g5, g6⟩ := h
  unfold maxLen at g4
  have hTU := opsTy
  have HS := Lib.hid (fun (w : World) (A : Option Addr) (n c : Nat) (l : List UInt8) (h : Bytes w (.slice A n c) l) => run_str (P := Try.prog) (src := 24) (dst := 9) h Try.underlying24 Try.underlying5 Try.underlying9)
  have HOP := Lib.hid (fun (i : Nat) (hi : i < n) => op_at' g5 g1 g2 g6 hi)
  have HKD := Lib.hid (ops_kind (show RowC 3 rOp w xs l from ⟨by rw [g1]; exact g2, g6⟩))
  have HTK := Lib.hid (show l.take n = l by rw [← g1]; exact List.take_length)
  have HLN := Lib.hid (fun j => Nat.le_trans (length_net (l.take j)) (show (l.take j).length ≤ j by rw [List.length_take]; omega))
  have hnn : n ≤ 100 := by omega
  clear g1 g2 g5 g6 hn1
  go_enter Try.func39, Try.ntmps39
  go_wp2
  go_loopw [3, 4] (fun vo iv wr => ∃ (j m : Nat) (co : List Value), j ≤ n ∧ iv = .int .i64 j ∧ wr.ownsRow w.heap.size 34 3 vo m co ∧ RowC 3 rOp w co ((netP (l.take j)).map (·.2)) ∧ Below w.heap.size w wr) (fun _ iv _ => n - (RowKit.intOf iv).toNat)
  case atStart => exact ⟨0, 0, [], Nat.zero_le _, rfl, World.ownsRow_nil _ _ _ _, RowC.nil _ _ _, Below.refl _ _⟩
  case round =>
    obtain ⟨j, m, co, hj, rfl, ho, hrow, hBr⟩ := hrel
    obtain ⟨wo, rfl⟩ : ∃ wo : World, wo = wr := ⟨_, rfl⟩
    by_cases hlt : j < n
    · obtain ⟨ad2, o, kv, vv, rfl, r0, r1, r2, hoi, hkb, hvb⟩ := HOP.out j hlt
      have f2 : decide ((j : Int) < n) = true := decide_eq_true (by omega)
      have b3 : (0 : Int) ≤ j := by omega
      have b4 : (j : Int) < n := by omega
      have HR0 := Lib.hid (fun (w' : World) (hb : Below w.heap.size w w') => cell_ext hb r0)
      have HR1 := Lib.hid (fun (w' : World) (hb : Below w.heap.size w w') => cell_ext hb r1)
      have HR2 := Lib.hid (fun (w' : World) (hb : Below w.heap.size w w') => cell_ext hb r2)
      have HOB := Lib.hid (And.intro hkb hvb)
      have HOK := Lib.hid (HKD.out o (List.mem_of_getElem? hoi))
      have HSN := Lib.hid (netP_snoc hoi)
      have HPR := Lib.hid (netP_rises (l.take j))
      have HRW := Lib.hid hrow
      have HCE := Lib.hid (ops_cells hrow)
      have hPN : (netP (l.take j)).length = m := by have := hrow.1; have := ho.1; rw [List.length_map] at *; omega
      have hmm : m ≤ 100 := by have := HLN.out j; omega
      have HMM := Lib.hid hmm
      have HPN := Lib.hid hPN
      have HCL := Lib.hid ho.1
      obtain ⟨AK, nk, cK, hkv, _⟩ := id hkb
      subst hkv
      obtain ⟨AV, nv, cV, hvv, _⟩ := id hvb
      subst hvv
      obtain ⟨A, c1, rfl⟩ := own_sl ho
      have hcc := row_cap ho
      have HOX := Lib.hid ho
      have HBR := Lib.hid hBr
      have hc1 : c1 ≤ 9223372036854775807 := row_most ho
      have hmm2 : (m : Int) ≤ 100 := by omega
      clear hkb hvb hoi hrow r0 r1 r2 hPN ho hBr
      go_wp2
      go_loopw [5] (fun iv wi => ∃ (k : Nat), k ≤ m ∧ iv = .int .i64 k ∧ (∀ p ∈ (netP (l.take j)).take k, ltB p.1 o.key = true) ∧ Below wo.heap.size wo wi) (fun iv _ => m - (RowKit.intOf iv).toNat)
      case atStart => exact ⟨0, Nat.zero_le _, rfl, (fun p hp => by cases hp), Below.refl _ _⟩
      case round =>
        obtain ⟨wi, rfl⟩ : ∃ wi : World, wi = wr := ⟨_, rfl⟩
        obtain ⟨k, hk, rfl, hlo, hBi⟩ := hrel
        have HBw := Lib.hid (below_step HBR.out hBi)
        have hoX := own_ext HOX.out hBi
        have b1 : (0 : Int) ≤ k := by omega
        by_cases hkm : k < m
        · obtain ⟨ad1, o1, kv1, vv1, rfl, p0, p1, p2, hp1, hkb1, hvb1⟩ := op_at' (Rd.own hoX) (show ((netP (l.take j)).map (·.2)).length = m by rw [List.length_map]; exact HPN.out) HCL.out HRW.out.2 hkm
          clear p0 p2 hvb1
          obtain ⟨pk, hp, rfl⟩ : ∃ pk, (netP (l.take j))[k]? = some (pk, o1) ∧ o1.key = pk := by
            rw [List.getElem?_map] at hp1
            cases h : (netP (l.take j))[k]? with
            | none => rw [h] at hp1; cases hp1
            | some p =>
              rw [h] at hp1
              injection hp1 with hp1
              subst hp1
              exact ⟨p.1, rfl, (netP_mem (List.mem_of_getElem? h)).1⟩
          obtain ⟨pk, hpk⟩ : ∃ pk, pk = o1.key := ⟨_, rfl⟩
          rw [← hpk] at hp hkb1
          clear hp1 hpk
          obtain ⟨AK1, nk1, cK1, e1⟩ : ∃ A n c, kv1 = .slice A n c := by obtain ⟨A, n, c, e, _⟩ := hkb1; exact ⟨A, n, c, e⟩
          subst e1
          have b2 : (k : Int) < m := by omega
          have f1 : decide ((k : Int) < m) = true := decide_eq_true b2
          obtain ⟨res, hres⟩ : ∃ res, res = ltB pk o.key := ⟨_, rfl⟩
          have HR := Lib.hid (show Op.bytesLess pk o.key = res by rw [less_eq, hres])
          replace hres := Lib.hid hres
          have HP0 := Lib.hid (fun (w' : World) (hb : Below wi.drew.heap.size wi.drew w') => cell_ext hb (cell_drew (show wi.cell? _ = _ from p1)))
          have HB1 := Lib.hid (fun (w' : World) (hb : Below wi.drew.heap.size wi.drew w') => hkb1.ext (below_step (below_drew HBw.out) hb))
          have HB2 := Lib.hid (fun (w' : World) (hb : Below wi.drew.heap.size wi.drew w') => HOB.out.1.ext (below_step (below_drew HBw.out) hb))
          have HQ0 := Lib.hid (fun (w' : World) (hb : Below wi.drew.heap.size wi.drew w') => HR1.out _ (below_step (below_drew HBw.out) hb))
          go_upto_region 6 with (fail)
          refine wp_region_each (by kernel_rfl) (by kernel_rfl) (by kernel_rfl) (fun w w' => Below w.heap.size w w') (fun w => Below.refl _ _) (fun x y z h1 h2 => below_step h1 h2) (SN6i ad1 ad2 m c1 n c2 k j (.slice AK1 nk1 cK1) (.slice AK nk cK) pk o.key res) (SN6i_stays _ _ _ _ _ _ _ _ _ _ _ _ _) ?_ ?_
          · simp only [EachStep]
            refine ⟨?_, ?_, ?_, ?_, ?_, ?_, ?_, ?_, ?_, ?_, ?_, ?_, ?_, ?_, ?_, ?_, ?_, ?_, ?_, trivial⟩
            · intro V w' hb hd
              clear hd
              refine ⟨?_⟩
              simp only [fill]
              go_wp2
              exact ⟨rfl, rfl, Below.refl _ _, rfl⟩
            · intro V w' hb hd
              clear hd
              refine ⟨?_⟩
              simp only [fill]
              go_wp2
              exact ⟨rfl, rfl, Below.refl _ _, rfl⟩
            · intro V w' hb hd
              simp only [DepFacts, SN6i, Region.binds, forall_const, and_true] at hd
              refine ⟨?_⟩
              simp only [fill, hd]
              clear hd
              go_wp2
              exact ⟨rfl, rfl, Below.refl _ _, rfl⟩
            · intro V w' hb hd
              simp only [DepFacts, SN6i, Region.binds, forall_const, and_true] at hd
              refine ⟨?_⟩
              simp only [fill, hd]
              clear hd
              go_wp2
              exact ⟨rfl, rfl, Below.refl _ _, rfl⟩
            · intro V w' hb hd
              simp only [DepFacts, SN6i, Region.binds, forall_const, and_true] at hd
              refine ⟨?_⟩
              simp only [fill, hd]
              clear hd
              go_wp2
              exact ⟨rfl, rfl, Below.refl _ _, rfl⟩
            · intro V w' hb hd
              simp only [DepFacts, SN6i, Region.binds, forall_const, and_true] at hd
              refine ⟨?_⟩
              simp only [fill, hd]
              clear hd
              go_wp2
              exact ⟨rfl, rfl, Below.refl _ _, rfl⟩
            · intro V w' hb hd
              simp only [DepFacts, SN6i, Region.binds, forall_const, and_true] at hd
              refine ⟨?_⟩
              simp only [fill, hd]
              clear hd
              go_wp2
              exact ⟨rfl, rfl, Below.refl _ _, rfl⟩
            · intro V w' hb hd
              simp only [DepFacts, SN6i, Region.binds, forall_const, and_true] at hd
              refine ⟨?_⟩
              simp only [fill, hd]
              clear hd
              go_wp2
              exact ⟨rfl, rfl, Below.refl _ _, rfl⟩
            · intro V w' hb hd
              simp only [DepFacts, SN6i, Region.binds, forall_const, and_true] at hd
              refine ⟨?_⟩
              simp only [fill, hd]
              clear hd
              go_wp2
              exact ⟨rfl, rfl, Below.refl _ _, rfl⟩
            · intro V w' hb hd
              have q := HP0.out _ hb
              simp only [DepFacts, SN6i, Region.binds, forall_const, and_true] at hd
              refine ⟨?_⟩
              simp only [fill, hd]
              clear hd
              go_wp2
              exact ⟨rfl, rfl, Below.refl _ _, rfl⟩
            · intro V w' hb hd
              have q := HS.out _ _ _ _ _ (HB1.out _ hb)
              simp only [DepFacts, SN6i, Region.binds, forall_const, and_true] at hd
              refine ⟨?_⟩
              simp only [fill, hd]
              clear hd
              go_wp2
              exact ⟨rfl, rfl, Below.refl _ _, rfl⟩
            · intro V w' hb hd
              simp only [DepFacts, SN6i, Region.binds, forall_const, and_true] at hd
              refine ⟨?_⟩
              simp only [fill, hd]
              clear hd
              go_wp2
              exact ⟨rfl, rfl, Below.refl _ _, rfl⟩
            · intro V w' hb hd
              simp only [DepFacts, SN6i, Region.binds, forall_const, and_true] at hd
              refine ⟨?_⟩
              simp only [fill, hd]
              clear hd
              go_wp2
              exact ⟨rfl, rfl, Below.refl _ _, rfl⟩
            · intro V w' hb hd
              simp only [DepFacts, SN6i, Region.binds, forall_const, and_true] at hd
              refine ⟨?_⟩
              simp only [fill, hd]
              clear hd
              go_wp2
              exact ⟨rfl, rfl, Below.refl _ _, rfl⟩
            · intro V w' hb hd
              simp only [DepFacts, SN6i, Region.binds, forall_const, and_true] at hd
              refine ⟨?_⟩
              simp only [fill, hd]
              clear hd
              go_wp2
              exact ⟨rfl, rfl, Below.refl _ _, rfl⟩
            · intro V w' hb hd
              have q := HQ0.out _ hb
              simp only [DepFacts, SN6i, Region.binds, forall_const, and_true] at hd
              refine ⟨?_⟩
              simp only [fill, hd]
              clear hd
              go_wp2
              exact ⟨rfl, rfl, Below.refl _ _, rfl⟩
            · intro V w' hb hd
              have q := HS.out _ _ _ _ _ (HB2.out _ hb)
              simp only [DepFacts, SN6i, Region.binds, forall_const, and_true] at hd
              refine ⟨?_⟩
              simp only [fill, hd]
              clear hd
              go_wp2
              exact ⟨rfl, rfl, Below.refl _ _, rfl⟩
            · intro V w' hb hd
              have q := HR.out
              simp only [DepFacts, SN6i, Region.binds, forall_const, and_true] at hd
              refine ⟨?_⟩
              simp only [fill, hd]
              clear hd
              go_wp2
              exact ⟨rfl, rfl, Below.refl _ _, rfl⟩
            · intro V w' hb hd
              simp only [DepFacts, SN6i, Region.binds, forall_const, and_true] at hd
              refine ⟨?_⟩
              simp only [fill, hd]
              clear hd
              go_wp2
              exact ⟨rfl, rfl, Below.refl _ _, rfl⟩
          · intro V w12 hb12 hV
            simp only [SFacts, SN6i] at hV
            have h18 := hV.2.2.2.2.2.2.2.2.2.2.2.2.2.2.2.2.2.2.1
            clear hV
            simp only [fill, h18]
            clear h18
            try simp only [Exit.then]
            try go_simp
            have hBi := below_step (below_drew hBi) hb12
            have HBw := Lib.hid (below_step (below_drew HBw.out) hb12)
            have hoX := own_ext (show Go.World.ownsRow wi.drew _ _ _ _ _ _ from hoX) hb12
            clear HP0 HB1 HB2 HQ0 HR
            cases res
            · -- here
              obtain ⟨res, hres5⟩ : ∃ res, res = decide (pk = o.key) := ⟨_, rfl⟩
              have HR := Lib.hid (show (pk == o.key) = res from by rw [hres5]; exact Bool.eq_iff_iff.2 (by simp))
              replace hres5 := Lib.hid hres5
              have HP0 := Lib.hid (fun (w' : World) (hb : Below w12.drew.heap.size w12.drew w') => cell_ext hb (cell_drew (show w12.cell? _ = _ from cell_ext hb12 (cell_drew p1))))
              have HB1 := Lib.hid (fun (w' : World) (hb : Below w12.drew.heap.size w12.drew w') => hkb1.ext (below_step (below_drew HBw.out) hb))
              have HB2 := Lib.hid (fun (w' : World) (hb : Below w12.drew.heap.size w12.drew w') => HOB.out.1.ext (below_step (below_drew HBw.out) hb))
              have HQ0 := Lib.hid (fun (w' : World) (hb : Below w12.drew.heap.size w12.drew w') => HR1.out _ (below_step (below_drew HBw.out) hb))
              go_upto_region 8 with (fail)
              refine wp_region_each (by kernel_rfl) (by kernel_rfl) (by kernel_rfl) (fun w w' => Below w.heap.size w w') (fun w => Below.refl _ _) (fun x y z h1 h2 => below_step h1 h2) (SN8i ad1 ad2 m c1 n c2 k j (.slice AK1 nk1 cK1) (.slice AK nk cK) pk o.key res) (SN8i_stays _ _ _ _ _ _ _ _ _ _ _ _ _) ?_ ?_
              · simp only [EachStep]
                refine ⟨?_, ?_, ?_, ?_, ?_, ?_, ?_, ?_, ?_, ?_, ?_, ?_, ?_, ?_, ?_, ?_, ?_, ?_, ?_, trivial⟩
                · intro V w' hb hd
                  clear hd
                  refine ⟨?_⟩
                  simp only [fill]
                  go_wp2
                  exact ⟨rfl, rfl, Below.refl _ _, rfl⟩
                · intro V w' hb hd
                  clear hd
                  refine ⟨?_⟩
                  simp only [fill]
                  go_wp2
                  exact ⟨rfl, rfl, Below.refl _ _, rfl⟩
                · intro V w' hb hd
                  simp only [DepFacts, SN8i, Region.binds, forall_const, and_true] at hd
                  refine ⟨?_⟩
                  simp only [fill, hd]
                  clear hd
                  go_wp2
                  exact ⟨rfl, rfl, Below.refl _ _, rfl⟩
                · intro V w' hb hd
                  simp only [DepFacts, SN8i, Region.binds, forall_const, and_true] at hd
                  refine ⟨?_⟩
                  simp only [fill, hd]
                  clear hd
                  go_wp2
                  exact ⟨rfl, rfl, Below.refl _ _, rfl⟩
                · intro V w' hb hd
                  simp only [DepFacts, SN8i, Region.binds, forall_const, and_true] at hd
                  refine ⟨?_⟩
                  simp only [fill, hd]
                  clear hd
                  go_wp2
                  exact ⟨rfl, rfl, Below.refl _ _, rfl⟩
                · intro V w' hb hd
                  simp only [DepFacts, SN8i, Region.binds, forall_const, and_true] at hd
                  refine ⟨?_⟩
                  simp only [fill, hd]
                  clear hd
                  go_wp2
                  exact ⟨rfl, rfl, Below.refl _ _, rfl⟩
                · intro V w' hb hd
                  simp only [DepFacts, SN8i, Region.binds, forall_const, and_true] at hd
                  refine ⟨?_⟩
                  simp only [fill, hd]
                  clear hd
                  go_wp2
                  exact ⟨rfl, rfl, Below.refl _ _, rfl⟩
                · intro V w' hb hd
                  simp only [DepFacts, SN8i, Region.binds, forall_const, and_true] at hd
                  refine ⟨?_⟩
                  simp only [fill, hd]
                  clear hd
                  go_wp2
                  exact ⟨rfl, rfl, Below.refl _ _, rfl⟩
                · intro V w' hb hd
                  simp only [DepFacts, SN8i, Region.binds, forall_const, and_true] at hd
                  refine ⟨?_⟩
                  simp only [fill, hd]
                  clear hd
                  go_wp2
                  exact ⟨rfl, rfl, Below.refl _ _, rfl⟩
                · intro V w' hb hd
                  have q := HP0.out _ hb
                  simp only [DepFacts, SN8i, Region.binds, forall_const, and_true] at hd
                  refine ⟨?_⟩
                  simp only [fill, hd]
                  clear hd
                  go_wp2
                  exact ⟨rfl, rfl, Below.refl _ _, rfl⟩
                · intro V w' hb hd
                  have q := HS.out _ _ _ _ _ (HB1.out _ hb)
                  simp only [DepFacts, SN8i, Region.binds, forall_const, and_true] at hd
                  refine ⟨?_⟩
                  simp only [fill, hd]
                  clear hd
                  go_wp2
                  exact ⟨rfl, rfl, Below.refl _ _, rfl⟩
                · intro V w' hb hd
                  simp only [DepFacts, SN8i, Region.binds, forall_const, and_true] at hd
                  refine ⟨?_⟩
                  simp only [fill, hd]
                  clear hd
                  go_wp2
                  exact ⟨rfl, rfl, Below.refl _ _, rfl⟩
                · intro V w' hb hd
                  simp only [DepFacts, SN8i, Region.binds, forall_const, and_true] at hd
                  refine ⟨?_⟩
                  simp only [fill, hd]
                  clear hd
                  go_wp2
                  exact ⟨rfl, rfl, Below.refl _ _, rfl⟩
                · intro V w' hb hd
                  simp only [DepFacts, SN8i, Region.binds, forall_const, and_true] at hd
                  refine ⟨?_⟩
                  simp only [fill, hd]
                  clear hd
                  go_wp2
                  exact ⟨rfl, rfl, Below.refl _ _, rfl⟩
                · intro V w' hb hd
                  simp only [DepFacts, SN8i, Region.binds, forall_const, and_true] at hd
                  refine ⟨?_⟩
                  simp only [fill, hd]
                  clear hd
                  go_wp2
                  exact ⟨rfl, rfl, Below.refl _ _, rfl⟩
                · intro V w' hb hd
                  have q := HQ0.out _ hb
                  simp only [DepFacts, SN8i, Region.binds, forall_const, and_true] at hd
                  refine ⟨?_⟩
                  simp only [fill, hd]
                  clear hd
                  go_wp2
                  exact ⟨rfl, rfl, Below.refl _ _, rfl⟩
                · intro V w' hb hd
                  have q := HS.out _ _ _ _ _ (HB2.out _ hb)
                  simp only [DepFacts, SN8i, Region.binds, forall_const, and_true] at hd
                  refine ⟨?_⟩
                  simp only [fill, hd]
                  clear hd
                  go_wp2
                  exact ⟨rfl, rfl, Below.refl _ _, rfl⟩
                · intro V w' hb hd
                  have q := HR.out
                  simp only [DepFacts, SN8i, Region.binds, forall_const, and_true] at hd
                  refine ⟨?_⟩
                  simp only [fill, hd]
                  clear hd
                  go_wp2
                  exact ⟨rfl, rfl, Below.refl _ _, rfl⟩
                · intro V w' hb hd
                  simp only [DepFacts, SN8i, Region.binds, forall_const, and_true] at hd
                  refine ⟨?_⟩
                  simp only [fill, hd]
                  clear hd
                  go_wp2
                  exact ⟨rfl, rfl, Below.refl _ _, rfl⟩
              · intro V w13 hb13 hV
                simp only [SFacts, SN8i] at hV
                have h18 := hV.2.2.2.2.2.2.2.2.2.2.2.2.2.2.2.2.2.2.1
                clear hV
                simp only [fill, h18]
                clear h18
                try simp only [Exit.then]
                try go_simp
                have hBi := below_step (below_drew hBi) hb13
                have HBw := Lib.hid (below_step (below_drew HBw.out) hb13)
                have hoX := own_ext (show Go.World.ownsRow w12.drew _ _ _ _ _ _ from hoX) hb13
                clear HP0 HB1 HB2 HQ0 HR
                cases res
                · -- another key
                  have hne : pk ≠ o.key := of_decide_eq_false hres5.out.symm
                  replace hne := Lib.hid hne
                  have HNEW := Lib.hid (show RowC 3 rOp w (co.take (k * 3) ++ [.bool o.del, .slice AK nk cK, .slice AV nv cV] ++ co.drop (k * 3)) ((netP (l.take (j + 1))).map (·.2)) from by
                    rw [HSN.out, set_at HPR.out (tail := k) (some o) (by have := HPN.out; omega) hlo (fun p h => by rw [hp] at h; injection h with h; subst h; exact hres.out.symm) (.inl ⟨rfl, fun p h => by rw [hp] at h; injection h with h; subst h; exact hne.out⟩)]
                    exact net_row HRW.out (by have := HPN.out; omega) (by have := HPN.out; omega) HOB.out.1 HOB.out.2 HOK.out)
                  have hcutK := cutp_h hTU (some ad1) m c1 (kh := .i64) (hi' := (k : Int)) (hi := k) rfl (by omega)
                  obtain ⟨A10, hcut10, hcutR⟩ := cutp_l hTU (some ad1) m c1 (kl := .i64) (lo' := (k : Int)) (lo := k) rfl (by omega) (by omega)
                  obtain ⟨mt, hmt⟩ : ∃ x, x = m - k := ⟨_, rfl⟩
                  rw [← hmt] at hcut10
                  replace hmt := Lib.hid hmt
                  have hmt100 : mt ≤ 100 := by have := hmt.out; have := HMM.out; omega
                  have hsz10 := HBw.out.size
                  have hrd10 := hcutR _ _ hoX.1 (Rd.own hoX)
                  have HXD := Lib.hid (show (co.drop (k * 3)).length = mt * 3 by rw [hmt.out, List.length_drop, hoX.1, Nat.sub_mul])
                  have HXT := Lib.hid (show (co.take (k * 3)).length = k * 3 by rw [List.length_take, hoX.1]; omega)
                  have HOT := Lib.hid (show ∀ u ∈ co.take (k * 3), u.oneCell' = true from fun u hu => HCE.out u (List.mem_of_mem_take hu))
                  have HOD := Lib.hid (show ∀ u ∈ co.drop (k * 3), u.oneCell' = true from fun u hu => HCE.out u (List.mem_of_mem_drop hu))
                  go_upto_region 11 with (first
                    | (at_builtin; refine wpList_append_rd _ rfl (.const (.slice none 0 0)) (.tmp 62) _ rfl w.heap.size _ _ 3 56 hTU _ _ _ rfl (World.ownsRow_nil _ _ _ _) A10 mt (c1 - k) (co.drop (k * 3)) rfl HXD.out hrd10 HOD.out (by unfold maxLen; omega) (by omega) hsz10 ?_; intro vt wt hot hgt hatt)
                    | fail)
                  rw [Nat.zero_add, List.nil_append] at hot
                  replace hgt : World.grownBy _ wt none := hgt
                  have hbt : Below _ _ wt := ⟨hgt.os, hgt.tape, hgt.output, hgt.size, fun k hk => hgt.block k hk (by simp)⟩
                  have hBt := below_step HBw.out hbt
                  have hoXt := own_ext hoX hbt
                  clear hcut10 hcutR hrd10 hatt hgt
                  obtain ⟨At, ct, ett⟩ := own_sl hot
                  subst ett
                  have HRD := Lib.hid (fun (w' : World) (hb : Below wt.heap.size wt.drew w') => (show Rd wt.drew _ _ from (Rd.own hoXt).take (k * 3)).ext hb)
                  have HRT := Lib.hid (fun (w' : World) (hb : Below wt.heap.size wt.drew w') => (show Rd wt.drew _ _ from Rd.own hot).ext hb)
                  have HR0t := Lib.hid (fun (w' : World) (hb : Below wt.heap.size wt.drew w') => HR0.out _ (below_step (below_drew hBt) hb))
                  have HR1t := Lib.hid (fun (w' : World) (hb : Below wt.heap.size wt.drew w') => HR1.out _ (below_step (below_drew hBt) hb))
                  have HR2t := Lib.hid (fun (w' : World) (hb : Below wt.heap.size wt.drew w') => HR2.out _ (below_step (below_drew hBt) hb))
                  have HMK := Lib.hid (show k + 1 + mt = m + 1 by have := hmt.out; omega)
                  have HOC := HOT
                  have HSZ := Lib.hid hBt.size
                  have HBt := Lib.hid hBt
                  obtain ⟨q, hqq⟩ : ∃ q, q = wt.heap.size := ⟨_, rfl⟩
                  rw [← hqq] at HRD HRT HR0t HR1t HR2t HSZ
                  have hmb : m ≤ 100 := HMM.out
                  clear hoXt hot hoX hbt hBt
                  refine wp_region_late 12 1 (by kernel_rfl) (by kernel_rfl) (by kernel_rfl) (fun w w' => Below q w w') (fun _ => Below.refl _ _) (fun _ _ _ h k => h.trans k) (SNt (some ad1) At ad2 m c1 n c2 k j mt ct o.del AK nk cK AV nv cV) (SNt_stays q _ _ _ _ _ _ _ _ _ _ _ _ _ _ _ _ _ _) (JNt q k m [.bool o.del, .slice AK nk cK, .slice AV nv cV] co)
                    ⟨fun e => (by cases e), fun e => (by cases e), fun e => (by cases e), fun e => (by cases e), fun e => (by cases e), Nat.le_of_eq hqq⟩ ?_ ?_
                  · clear hqq
                    simp only [PhStep]
                    refine ⟨?_, ?_, ?_, ?_, ?_, ?_, ?_, ?_, ?_, ?_, ?_, ?_, ?_, trivial⟩
                    · intro L V w' hb hj hl hdo hcl hd
                      clear hdo hcl
                      clear hd
                      refine ⟨?_⟩
                      simp only [fillX, ne_eq, Nat.reduceEqDiff, not_false_eq_true, not_true_eq_false, if_true, if_false]
                      go_wp2
                      exact ⟨⟨rfl, rfl, Below.refl _ _, rfl⟩, (JNt_far _ _ _ _ _ hj (by decide) (by decide) (by decide) (by decide) (by decide))⟩
                    · intro L V w' hb hj hl hdo hcl hd
                      clear hdo hcl
                      clear hd
                      refine ⟨?_⟩
                      simp only [fillX, ne_eq, Nat.reduceEqDiff, not_false_eq_true, not_true_eq_false, if_true, if_false]
                      go_wp2
                      exact ⟨⟨rfl, rfl, Below.refl _ _, rfl⟩, (JNt_far _ _ _ _ _ hj (by decide) (by decide) (by decide) (by decide) (by decide))⟩
                    · intro L V w' hb hj hl hdo hcl hd
                      clear hdo hcl
                      simp only [DepFacts, SNt, Region.binds, forall_const, and_true] at hd
                      refine ⟨?_⟩
                      simp only [fillX, ne_eq, Nat.reduceEqDiff, not_false_eq_true, not_true_eq_false, if_true, if_false, hd]
                      clear hd
                      have q := hcutK
                      go_wp2
                      exact ⟨⟨rfl, rfl, Below.refl _ _, rfl⟩, (JNt_far _ _ _ _ _ hj (by decide) (by decide) (by decide) (by decide) (by decide))⟩
                    · intro L V w' hb hj hl hdo hcl hd
                      have h9 : L 9 = false := Bool.eq_false_iff.2 fun e => by have := hcl 9 3 (by kernel_rfl) e; rw [this] at hl; cases hl
                      have h11 : L 11 = false := Bool.eq_false_iff.2 fun e => by have := hcl 11 9 (by kernel_rfl) e; rw [this] at h9; cases h9
                      have h12 : L 12 = false := Bool.eq_false_iff.2 fun e => by have := hcl 12 11 (by kernel_rfl) e; rw [this] at h11; cases h11
                      have hrd := HRD.out _ hb
                      have h8 := hj.2.1
                      have hq9 := hj.2.2.2.2.2
                      clear hdo hcl
                      simp only [DepFacts, SNt, Region.binds, forall_const, and_true] at hd
                      refine ⟨?_⟩
                      simp only [fillX, ne_eq, Nat.reduceEqDiff, not_false_eq_true, not_true_eq_false, if_true, if_false, hd]
                      clear hd
                      simp only [Act.put, List.setIfInBounds_toArray, List.set_cons_zero, List.set_cons_succ]
                      go_wp2_with (first | (at_builtin; refine wpList_append_rd _ rfl (.const (.slice none 0 0)) (.tmp 66) _ rfl q _ _ 3 56 hTU _ _ _ rfl (World.ownsRow_nil _ _ _ _) (some ad1) k c1 (co.take (k * 3)) rfl HXT.out hrd HOC.out (by unfold maxLen; omega) (by omega) hq9 ?_; intro v2 w2 ho2 hg2 _; replace hg2 : World.grownBy w' w2 none := hg2) | fail)
                      rw [Nat.zero_add, List.nil_append] at ho2
                      have hb2 : Below w'.heap.size w' w2 := ⟨hg2.os, hg2.tape, hg2.output, hg2.size, fun k hk => hg2.block k hk (by simp)⟩
                      exact ⟨⟨rfl, rfl, ⟨hg2.os, hg2.tape, hg2.output, hg2.size, fun k hk => hg2.block k (Nat.lt_of_lt_of_le hk hq9) (by simp)⟩, trivial⟩, JNt_3 _ _ _ _ _ h9 h11 h12 ho2 (fun e => by obtain ⟨g, e1, e2⟩ := h8 e h9; exact ⟨g, e1, e2.ext hb2⟩) (Nat.le_trans hq9 hg2.size)⟩
                    · intro L V w' hb hj hl hdo hcl hd
                      clear hdo hcl
                      clear hd
                      refine ⟨?_⟩
                      simp only [fillX, ne_eq, Nat.reduceEqDiff, not_false_eq_true, not_true_eq_false, if_true, if_false]
                      go_wp2
                      exact ⟨⟨rfl, rfl, Below.refl _ _, rfl⟩, (JNt_far _ _ _ _ _ hj (by decide) (by decide) (by decide) (by decide) (by decide))⟩
                    · intro L V w' hb hj hl hdo hcl hd
                      clear hdo hcl
                      clear hd
                      refine ⟨?_⟩
                      simp only [fillX, ne_eq, Nat.reduceEqDiff, not_false_eq_true, not_true_eq_false, if_true, if_false]
                      go_wp2
                      exact ⟨⟨rfl, rfl, Below.refl _ _, rfl⟩, (JNt_far _ _ _ _ _ hj (by decide) (by decide) (by decide) (by decide) (by decide))⟩
                    · intro L V w' hb hj hl hdo hcl hd
                      clear hdo hcl
                      simp only [DepFacts, SNt, Region.binds, forall_const, and_true] at hd
                      refine ⟨?_⟩
                      simp only [fillX, ne_eq, Nat.reduceEqDiff, not_false_eq_true, not_true_eq_false, if_true, if_false, hd]
                      clear hd
                      go_wp2
                      exact ⟨⟨rfl, rfl, Below.refl _ _, rfl⟩, (JNt_far _ _ _ _ _ hj (by decide) (by decide) (by decide) (by decide) (by decide))⟩
                    · intro L V w' hb hj hl hdo hcl hd
                      have q0 := HR0t.out _ hb
                      have q1 := HR1t.out _ hb
                      have q2 := HR2t.out _ hb
                      clear hdo hcl
                      simp only [DepFacts, SNt, Region.binds, forall_const, and_true] at hd
                      refine ⟨?_⟩
                      simp only [fillX, ne_eq, Nat.reduceEqDiff, not_false_eq_true, not_true_eq_false, if_true, if_false, hd]
                      clear hd
                      go_wp2
                      exact ⟨⟨rfl, rfl, Below.refl _ _, rfl⟩, (JNt_far _ _ _ _ _ hj (by decide) (by decide) (by decide) (by decide) (by decide))⟩
                    · intro L V w' hb hj hl hdo hcl hd
                      have h9 : L 9 = false := Bool.eq_false_iff.2 fun e => by have := hcl 9 8 (by kernel_rfl) e; rw [this] at hl; cases hl
                      have h11 : L 11 = false := Bool.eq_false_iff.2 fun e => by have := hcl 11 9 (by kernel_rfl) e; rw [this] at h9; cases h9
                      have h12 : L 12 = false := Bool.eq_false_iff.2 fun e => by have := hcl 12 11 (by kernel_rfl) e; rw [this] at h11; cases h11
                      have h3 := hj.1
                      have hq9 := hj.2.2.2.2.2
                      clear hdo hcl
                      simp only [DepFacts, SNt, Region.binds, forall_const, and_true] at hd
                      refine ⟨?_⟩
                      simp only [fillX, ne_eq, Nat.reduceEqDiff, not_false_eq_true, not_true_eq_false, if_true, if_false, hd]
                      clear hd
                      simp only [Act.put, List.setIfInBounds_toArray, List.set_cons_zero, List.set_cons_succ]
                      go_wp2_with (first | (refine wpList_row_one rfl (.tmp 71) rfl hTU (by decide) (cs := #[.bool o.del, .slice AK nk cK, .slice AV nv cV]) rfl rfl ?_; intro w2 hx2 hb2 hl2) | fail)
                      exact ⟨⟨rfl, rfl, ⟨hb2.os, hb2.tape, hb2.output, hb2.size, fun k hk => hb2.block k (Nat.lt_of_lt_of_le hk hq9)⟩, trivial⟩, JNt_8 _ _ _ _ _ h9 h11 h12 (fun e => own_ext (h3 e h9) hb2) ⟨_, rfl, hx2⟩ (Nat.le_trans hq9 hb2.size)⟩
                    · intro L V w' hb hj hl hdo hcl hd
                      have h11 : L 11 = false := Bool.eq_false_iff.2 fun e => by have := hcl 11 9 (by kernel_rfl) e; rw [this] at hl; cases hl
                      have h12 : L 12 = false := Bool.eq_false_iff.2 fun e => by have := hcl 12 11 (by kernel_rfl) e; rw [this] at h11; cases h11
                      have ho3 := hj.1 (hdo 3 (by kernel_rfl)) hl
                      obtain ⟨g, e8, hx8⟩ := hj.2.1 (hdo 8 (by kernel_rfl)) hl
                      have hq9 := hj.2.2.2.2.2
                      clear hdo hcl hd
                      refine ⟨?_⟩
                      simp only [fillX, ne_eq, Nat.reduceEqDiff, not_false_eq_true, not_true_eq_false, if_true, if_false, e8]
                      clear e8
                      simp only [Act.put, List.setIfInBounds_toArray, List.set_cons_zero, List.set_cons_succ]
                      go_wp2_with (first | (at_builtin; refine wpList_append_rd _ rfl (.tmp 67) (.tmp 72) _ rfl q _ _ 3 56 hTU _ _ _ rfl ho3 (some ⟨g, 0, none⟩) 1 1 [.bool o.del, .slice AK nk cK, .slice AV nv cV] rfl rfl hx8.rd (by intro u hu; simp only [List.mem_cons, List.not_mem_nil, or_false] at hu; rcases hu with rfl | rfl | rfl <;> rfl) (by unfold maxLen; omega) (by omega) hq9 ?_; intro v2 w2 ho2 hg2 _) | fail)
                      exact ⟨⟨rfl, rfl, grown_below hg2 (fun x hx => (ho3.lt x hx).1) hq9, trivial⟩, JNt_9 _ _ _ _ _ h11 h12 ho2 (Nat.le_trans hq9 hg2.size)⟩
                    · intro L V w' hb hj hl hdo hcl hd
                      clear hdo hcl
                      clear hd
                      refine ⟨?_⟩
                      simp only [fillX, ne_eq, Nat.reduceEqDiff, not_false_eq_true, not_true_eq_false, if_true, if_false]
                      go_wp2
                      exact ⟨⟨rfl, rfl, Below.refl _ _, rfl⟩, (JNt_far _ _ _ _ _ hj (by decide) (by decide) (by decide) (by decide) (by decide))⟩
                    · intro L V w' hb hj hl hdo hcl hd
                      have h12 : L 12 = false := Bool.eq_false_iff.2 fun e => by have := hcl 12 11 (by kernel_rfl) e; rw [this] at hl; cases hl
                      have h9 : L 9 = true := hdo 9 (by kernel_rfl)
                      have ho9 := hj.2.2.1 h9 hl
                      have hrd := HRT.out _ hb
                      have hq9 := hj.2.2.2.2.2
                      clear hdo hcl
                      have e10 : V 10 = .slice At mt ct := by
                        simp only [DepFacts, SNt, Region.binds, forall_const, and_true, true_and] at hd
                        first | exact hd | exact hd.1 | exact hd.2
                      clear hd
                      refine ⟨?_⟩
                      simp only [fillX, ne_eq, Nat.reduceEqDiff, not_false_eq_true, not_true_eq_false, if_true, if_false, e10]
                      clear e10
                      simp only [Act.put, List.setIfInBounds_toArray, List.set_cons_zero, List.set_cons_succ]
                      go_wp2_with (first | (at_builtin; refine wpList_append_rd _ rfl (.tmp 73) (.tmp 74) _ rfl q _ _ 3 56 hTU _ _ _ rfl ho9 At mt ct (co.drop (k * 3)) rfl HXD.out hrd HOD.out (by unfold maxLen; omega) (by omega) hq9 ?_; intro v2 w2 ho2 hg2 _) | fail)
                      rw [HMK.out] at ho2
                      exact ⟨⟨rfl, rfl, grown_below hg2 (fun x hx => (ho9.lt x hx).1) hq9, trivial⟩, JNt_11 _ _ _ _ _ h9 h12 ho2 (Nat.le_trans hq9 hg2.size)⟩
                    · intro L V w' hb hj hl hdo hcl hd
                      have h11 : L 11 = true := hdo 11 (by kernel_rfl)
                      have h9 : L 9 = true := hcl 11 9 (by kernel_rfl) h11
                      have ho := hj.2.2.2.1 h11
                      have hq9 := hj.2.2.2.2.2
                      clear hdo hcl hd
                      refine ⟨?_⟩
                      simp only [fillX, ne_eq, Nat.reduceEqDiff, not_false_eq_true, not_true_eq_false, if_true, if_false]
                      go_wp2
                      exact ⟨⟨rfl, rfl, Below.refl _ _, trivial⟩, JNt_12 _ _ _ _ _ h9 h11 ho hq9⟩
                  · intro L V w9 hL hb9 hs hj
                    have ho9 := hj.2.2.2.2.1 (hL 12 (by decide))
                    clear hs hj hL HRD HRT HR0t HR1t HR2t
                    have hsz := HSZ.out
                    have hB9 : Below w.heap.size w w9 := (below_drew HBt.out).trans (Below.mono hb9 hsz)
                    have ho9' := own_base ho9 hsz
                    clear ho9 hqq
                    simp only [fill]
                    try simp only [Exit.then]
                    try go_simp
                    go_wp2
                    go_roundw
                    case rel => exact ⟨j + 1, m + 1, _, by omega, by go_num, ho9', HNEW.out, hB9⟩
                    case measure => simp [RowKit.intOf]; omega
                · -- the key
                  have heq : pk = o.key := of_decide_eq_true hres5.out.symm
                  replace heq := Lib.hid heq
                  have HNEW := Lib.hid (show RowC 3 rOp w (co.take (k * 3) ++ [.bool o.del, .slice AK nk cK, .slice AV nv cV] ++ co.drop ((k + 1) * 3)) ((netP (l.take (j + 1))).map (·.2)) from by
                    rw [HSN.out, set_at HPR.out (tail := k + 1) (some o) (by have := HPN.out; omega) hlo (fun p h => by rw [hp] at h; injection h with h; subst h; exact hres.out.symm) (.inr ⟨rfl, _, hp, heq.out⟩)]
                    exact net_row HRW.out (by have := HPN.out; omega) (by have := HPN.out; omega) HOB.out.1 HOB.out.2 HOK.out)
                  have r0 := HR0.out _ HBw.out
                  have r1 := HR1.out _ HBw.out
                  have r2 := HR2.out _ HBw.out
                  obtain ⟨g, eg⟩ := own_at hoX (by omega)
                  injection eg with eg
                  have HPT := Lib.hid (show (Value.pointer (some (ad1.add (k * 3)))) = .pointer (some ⟨g, k * 3, none⟩) from by rw [eg, Addr.add_mid, Nat.zero_add])
                  have hoY : w13.ownsRow w.heap.size 34 3 (.slice (some ⟨g, 0, none⟩) m c1) m co := by rw [← eg]; exact hoX
                  have HAD := Lib.hid eg
                  clear eg hoX
                  have hmb : m ≤ 100 := HMM.out
                  go_wp2_with (first
                    | ((with_reducible refine gd_store ?_); refine wpList_store_row rfl 34 (.tmp 59) (.tmp 58) rfl (k := k) (cells := #[.bool o.del, .slice AK nk cK, .slice AV nv cV]) hoY hkm rfl HPT.out rfl (by kernel_rfl) rfl ?_; intro w9 ho9 hg9)
                    | fail)
                  have hB9 := below_own HBw.out hoY (Nat.le_refl _) hg9 HBw.out.size
                  go_roundw
                  case rel => exact ⟨j + 1, m, _, by omega, by go_num, by rw [HAD.out]; exact ho9, HNEW.out, hB9⟩
                  case measure => simp [RowKit.intOf]; omega
            · -- on
              go_wp2
              go_roundw
              case rel =>
                refine ⟨k + 1, by omega, by go_num, fun p h => ?_, hBi⟩
                obtain ⟨hk', hq'⟩ := List.getElem?_eq_some_iff.1 hp
                rw [List.take_succ_eq_append_getElem hk', hq'] at h
                rcases List.mem_append.1 h with h | h
                · exact hlo p h
                · rw [List.mem_singleton.1 h]
                  exact hres.out.symm
              case measure => simp [RowKit.intOf]; omega
        · obtain rfl : m = k := by omega
          have f1 : decide ((m : Int) < m) = false := decide_eq_false (by omega)
          go_upto_region 6 with (fail)
          refine wp_region_each (by kernel_rfl) (by kernel_rfl) (by kernel_rfl) (fun w w' => Below w.heap.size w w') (fun w => Below.refl _ _) (fun x y z h1 h2 => below_step h1 h2) (SN6o A m c1 m) (SN6o_stays _ _ _ _) ?_ ?_
          · simp only [EachStep]
            refine ⟨?_, ?_, ?_, ?_, ?_, ?_, ?_, ?_, ?_, ?_, ?_, ?_, ?_, ?_, ?_, ?_, ?_, ?_, ?_, trivial⟩
            · intro V w' hb hd
              clear hd
              refine ⟨?_⟩
              simp only [fill]
              go_wp2
              exact ⟨rfl, rfl, Below.refl _ _, rfl⟩
            · intro V w' hb hd
              clear hd
              refine ⟨?_⟩
              simp only [fill]
              go_wp2
              exact ⟨rfl, rfl, Below.refl _ _, rfl⟩
            · intro V w' hb hd
              simp only [DepFacts, SN6o, Region.binds, forall_const, and_true] at hd
              refine ⟨?_⟩
              simp only [fill, hd]
              clear hd
              go_wp2
              exact ⟨rfl, rfl, Below.refl _ _, rfl⟩
            · intro V w' hb hd
              simp only [DepFacts, SN6o, Region.binds, forall_const, and_true] at hd
              refine ⟨?_⟩
              simp only [fill, hd]
              clear hd
              go_wp2
              exact ⟨rfl, rfl, Below.refl _ _, rfl⟩
            · intro V w' hb hd
              simp only [DepFacts, SN6o, Region.binds, forall_const, and_true] at hd
              refine ⟨?_⟩
              simp only [fill, hd]
              clear hd
              go_wp2
              exact ⟨rfl, rfl, Below.refl _ _, rfl⟩
            · intro V w' hb hd
              simp only [DepFacts, SN6o, Region.binds, forall_const, and_true] at hd
              refine ⟨?_⟩
              simp only [fill, hd]
              clear hd
              go_wp2
              exact ⟨rfl, rfl, Below.refl _ _, trivial⟩
            · intro V w' hb hd
              simp only [DepFacts, SN6o, Region.binds, forall_const, and_true] at hd
              refine ⟨?_⟩
              simp only [fill, hd]
              clear hd
              go_wp2
              exact ⟨rfl, rfl, Below.refl _ _, trivial⟩
            · intro V w' hb hd
              simp only [DepFacts, SN6o, Region.binds, forall_const, and_true, true_and] at hd
              refine ⟨?_⟩
              simp only [fill, hd]
              clear hd
              go_wp2
              exact ⟨rfl, rfl, Below.refl _ _, trivial⟩
            · intro V w' hb hd
              simp only [DepFacts, SN6o, Region.binds, forall_const, and_true, true_and] at hd
              refine ⟨?_⟩
              simp only [fill, hd]
              clear hd
              go_wp2
              exact ⟨rfl, rfl, Below.refl _ _, trivial⟩
            · intro V w' hb hd
              simp only [DepFacts, SN6o, Region.binds, forall_const, and_true, true_and] at hd
              refine ⟨?_⟩
              simp only [fill, hd]
              clear hd
              go_wp2
              exact ⟨rfl, rfl, Below.refl _ _, trivial⟩
            · intro V w' hb hd
              simp only [DepFacts, SN6o, Region.binds, forall_const, and_true, true_and] at hd
              refine ⟨?_⟩
              simp only [fill, hd]
              clear hd
              go_wp2
              exact ⟨rfl, rfl, Below.refl _ _, trivial⟩
            · intro V w' hb hd
              simp only [DepFacts, SN6o, Region.binds, forall_const, and_true] at hd
              refine ⟨?_⟩
              simp only [fill, hd]
              clear hd
              go_wp2
              exact ⟨rfl, rfl, Below.refl _ _, trivial⟩
            · intro V w' hb hd
              simp only [DepFacts, SN6o, Region.binds, forall_const, and_true] at hd
              refine ⟨?_⟩
              simp only [fill, hd]
              clear hd
              go_wp2
              exact ⟨rfl, rfl, Below.refl _ _, trivial⟩
            · intro V w' hb hd
              simp only [DepFacts, SN6o, Region.binds, forall_const, and_true, true_and] at hd
              refine ⟨?_⟩
              simp only [fill, hd]
              clear hd
              go_wp2
              exact ⟨rfl, rfl, Below.refl _ _, trivial⟩
            · intro V w' hb hd
              simp only [DepFacts, SN6o, Region.binds, forall_const, and_true, true_and] at hd
              refine ⟨?_⟩
              simp only [fill, hd]
              clear hd
              go_wp2
              exact ⟨rfl, rfl, Below.refl _ _, trivial⟩
            · intro V w' hb hd
              simp only [DepFacts, SN6o, Region.binds, forall_const, and_true, true_and] at hd
              refine ⟨?_⟩
              simp only [fill, hd]
              clear hd
              go_wp2
              exact ⟨rfl, rfl, Below.refl _ _, trivial⟩
            · intro V w' hb hd
              simp only [DepFacts, SN6o, Region.binds, forall_const, and_true, true_and] at hd
              refine ⟨?_⟩
              simp only [fill, hd]
              clear hd
              go_wp2
              exact ⟨rfl, rfl, Below.refl _ _, trivial⟩
            · intro V w' hb hd
              simp only [DepFacts, SN6o, Region.binds, forall_const, and_true, true_and] at hd
              refine ⟨?_⟩
              simp only [fill, hd]
              clear hd
              go_wp2
              exact ⟨rfl, rfl, Below.refl _ _, trivial⟩
            · intro V w' hb hd
              simp only [DepFacts, SN6o, Region.binds, forall_const, and_true] at hd
              refine ⟨?_⟩
              simp only [fill, hd]
              clear hd
              go_wp2
              exact ⟨rfl, rfl, Below.refl _ _, rfl⟩
          · intro V w12 hb12 hV
            simp only [SFacts, SN6o] at hV
            have h18 := hV.2.2.2.2.2.2.2.2.2.2.2.2.2.2.2.2.2.2.1
            clear hV
            simp only [fill, h18]
            clear h18
            try simp only [Exit.then]
            try go_simp
            have hBi := below_step (below_drew hBi) hb12
            have HBw := Lib.hid (below_step (below_drew HBw.out) hb12)
            have hoX := own_ext (show Go.World.ownsRow wi.drew _ _ _ _ _ _ from hoX) hb12
            go_upto_region 8 with (fail)
            refine wp_region_each (by kernel_rfl) (by kernel_rfl) (by kernel_rfl) (fun w w' => Below w.heap.size w w') (fun w => Below.refl _ _) (fun x y z h1 h2 => below_step h1 h2) (SN8o A m c1 m) (SN8o_stays _ _ _ _) ?_ ?_
            · simp only [EachStep]
              refine ⟨?_, ?_, ?_, ?_, ?_, ?_, ?_, ?_, ?_, ?_, ?_, ?_, ?_, ?_, ?_, ?_, ?_, ?_, ?_, trivial⟩
              · intro V w' hb hd
                clear hd
                refine ⟨?_⟩
                simp only [fill]
                go_wp2
                exact ⟨rfl, rfl, Below.refl _ _, rfl⟩
              · intro V w' hb hd
                clear hd
                refine ⟨?_⟩
                simp only [fill]
                go_wp2
                exact ⟨rfl, rfl, Below.refl _ _, rfl⟩
              · intro V w' hb hd
                simp only [DepFacts, SN8o, Region.binds, forall_const, and_true] at hd
                refine ⟨?_⟩
                simp only [fill, hd]
                clear hd
                go_wp2
                exact ⟨rfl, rfl, Below.refl _ _, rfl⟩
              · intro V w' hb hd
                simp only [DepFacts, SN8o, Region.binds, forall_const, and_true] at hd
                refine ⟨?_⟩
                simp only [fill, hd]
                clear hd
                go_wp2
                exact ⟨rfl, rfl, Below.refl _ _, rfl⟩
              · intro V w' hb hd
                simp only [DepFacts, SN8o, Region.binds, forall_const, and_true] at hd
                refine ⟨?_⟩
                simp only [fill, hd]
                clear hd
                go_wp2
                exact ⟨rfl, rfl, Below.refl _ _, rfl⟩
              · intro V w' hb hd
                simp only [DepFacts, SN8o, Region.binds, forall_const, and_true] at hd
                refine ⟨?_⟩
                simp only [fill, hd]
                clear hd
                go_wp2
                exact ⟨rfl, rfl, Below.refl _ _, trivial⟩
              · intro V w' hb hd
                simp only [DepFacts, SN8o, Region.binds, forall_const, and_true] at hd
                refine ⟨?_⟩
                simp only [fill, hd]
                clear hd
                go_wp2
                exact ⟨rfl, rfl, Below.refl _ _, trivial⟩
              · intro V w' hb hd
                simp only [DepFacts, SN8o, Region.binds, forall_const, and_true, true_and] at hd
                refine ⟨?_⟩
                simp only [fill, hd]
                clear hd
                go_wp2
                exact ⟨rfl, rfl, Below.refl _ _, trivial⟩
              · intro V w' hb hd
                simp only [DepFacts, SN8o, Region.binds, forall_const, and_true, true_and] at hd
                refine ⟨?_⟩
                simp only [fill, hd]
                clear hd
                go_wp2
                exact ⟨rfl, rfl, Below.refl _ _, trivial⟩
              · intro V w' hb hd
                simp only [DepFacts, SN8o, Region.binds, forall_const, and_true, true_and] at hd
                refine ⟨?_⟩
                simp only [fill, hd]
                clear hd
                go_wp2
                exact ⟨rfl, rfl, Below.refl _ _, trivial⟩
              · intro V w' hb hd
                simp only [DepFacts, SN8o, Region.binds, forall_const, and_true, true_and] at hd
                refine ⟨?_⟩
                simp only [fill, hd]
                clear hd
                go_wp2
                exact ⟨rfl, rfl, Below.refl _ _, trivial⟩
              · intro V w' hb hd
                simp only [DepFacts, SN8o, Region.binds, forall_const, and_true] at hd
                refine ⟨?_⟩
                simp only [fill, hd]
                clear hd
                go_wp2
                exact ⟨rfl, rfl, Below.refl _ _, trivial⟩
              · intro V w' hb hd
                simp only [DepFacts, SN8o, Region.binds, forall_const, and_true] at hd
                refine ⟨?_⟩
                simp only [fill, hd]
                clear hd
                go_wp2
                exact ⟨rfl, rfl, Below.refl _ _, trivial⟩
              · intro V w' hb hd
                simp only [DepFacts, SN8o, Region.binds, forall_const, and_true, true_and] at hd
                refine ⟨?_⟩
                simp only [fill, hd]
                clear hd
                go_wp2
                exact ⟨rfl, rfl, Below.refl _ _, trivial⟩
              · intro V w' hb hd
                simp only [DepFacts, SN8o, Region.binds, forall_const, and_true, true_and] at hd
                refine ⟨?_⟩
                simp only [fill, hd]
                clear hd
                go_wp2
                exact ⟨rfl, rfl, Below.refl _ _, trivial⟩
              · intro V w' hb hd
                simp only [DepFacts, SN8o, Region.binds, forall_const, and_true, true_and] at hd
                refine ⟨?_⟩
                simp only [fill, hd]
                clear hd
                go_wp2
                exact ⟨rfl, rfl, Below.refl _ _, trivial⟩
              · intro V w' hb hd
                simp only [DepFacts, SN8o, Region.binds, forall_const, and_true, true_and] at hd
                refine ⟨?_⟩
                simp only [fill, hd]
                clear hd
                go_wp2
                exact ⟨rfl, rfl, Below.refl _ _, trivial⟩
              · intro V w' hb hd
                simp only [DepFacts, SN8o, Region.binds, forall_const, and_true, true_and] at hd
                refine ⟨?_⟩
                simp only [fill, hd]
                clear hd
                go_wp2
                exact ⟨rfl, rfl, Below.refl _ _, trivial⟩
              · intro V w' hb hd
                simp only [DepFacts, SN8o, Region.binds, forall_const, and_true] at hd
                refine ⟨?_⟩
                simp only [fill, hd]
                clear hd
                go_wp2
                exact ⟨rfl, rfl, Below.refl _ _, rfl⟩
            · intro V w13 hb13 hV
              simp only [SFacts, SN8o] at hV
              have h18 := hV.2.2.2.2.2.2.2.2.2.2.2.2.2.2.2.2.2.2.1
              clear hV
              simp only [fill, h18]
              clear h18
              try simp only [Exit.then]
              try go_simp
              have hBi := below_step (below_drew hBi) hb13
              have HBw := Lib.hid (below_step (below_drew HBw.out) hb13)
              have hoX := own_ext (show Go.World.ownsRow w12.drew _ _ _ _ _ _ from hoX) hb13
              have HNEW := Lib.hid (show RowC 3 rOp w (co.take (m * 3) ++ [.bool o.del, .slice AK nk cK, .slice AV nv cV] ++ co.drop (m * 3)) ((netP (l.take (j + 1))).map (·.2)) from by
                rw [HSN.out, set_at HPR.out (tail := m) (some o) (by have := HPN.out; omega) hlo (fun p h => by rw [List.getElem?_eq_none (by have := HPN.out; omega)] at h; cases h) (.inl ⟨rfl, (fun p h => by rw [List.getElem?_eq_none (by have := HPN.out; omega)] at h; cases h)⟩)]
                exact net_row HRW.out (by have := HPN.out; omega) (by have := HPN.out; omega) HOB.out.1 HOB.out.2 HOK.out)
              have hcutK := cutp_h hTU A m c1 (kh := .i64) (hi' := (m : Int)) (hi := m) rfl (by omega)
              obtain ⟨A10, hcut10, hcutR⟩ := cutp_l hTU A m c1 (kl := .i64) (lo' := (m : Int)) (lo := m) rfl (by omega) (by omega)
              obtain ⟨mt, hmt⟩ : ∃ x, x = m - m := ⟨_, rfl⟩
              rw [← hmt] at hcut10
              replace hmt := Lib.hid hmt
              have hmt100 : mt ≤ 100 := by have := hmt.out; have := HMM.out; omega
              have hsz10 := HBw.out.size
              have hrd10 := hcutR _ _ hoX.1 (Rd.own hoX)
              have HXD := Lib.hid (show (co.drop (m * 3)).length = mt * 3 by rw [hmt.out, List.length_drop, hoX.1, Nat.sub_mul])
              have HXT := Lib.hid (show (co.take (m * 3)).length = m * 3 by rw [List.length_take, hoX.1]; omega)
              have HOT := Lib.hid (show ∀ u ∈ co.take (m * 3), u.oneCell' = true from fun u hu => HCE.out u (List.mem_of_mem_take hu))
              have HOD := Lib.hid (show ∀ u ∈ co.drop (m * 3), u.oneCell' = true from fun u hu => HCE.out u (List.mem_of_mem_drop hu))
              go_upto_region 11 with (first
                | (at_builtin; refine wpList_append_rd _ rfl (.const (.slice none 0 0)) (.tmp 62) _ rfl w.heap.size _ _ 3 56 hTU _ _ _ rfl (World.ownsRow_nil _ _ _ _) A10 mt (c1 - m) (co.drop (m * 3)) rfl HXD.out hrd10 HOD.out (by unfold maxLen; omega) (by omega) hsz10 ?_; intro vt wt hot hgt hatt)
                | fail)
              rw [Nat.zero_add, List.nil_append] at hot
              replace hgt : World.grownBy _ wt none := hgt
              have hbt : Below _ _ wt := ⟨hgt.os, hgt.tape, hgt.output, hgt.size, fun m hk => hgt.block m hk (by simp)⟩
              have hBt := below_step HBw.out hbt
              have hoXt := own_ext hoX hbt
              clear hcut10 hcutR hrd10 hatt hgt
              obtain ⟨At, ct, ett⟩ := own_sl hot
              subst ett
              have HRD := Lib.hid (fun (w' : World) (hb : Below wt.heap.size wt.drew w') => (show Rd wt.drew _ _ from (Rd.own hoXt).take (m * 3)).ext hb)
              have HRT := Lib.hid (fun (w' : World) (hb : Below wt.heap.size wt.drew w') => (show Rd wt.drew _ _ from Rd.own hot).ext hb)
              have HR0t := Lib.hid (fun (w' : World) (hb : Below wt.heap.size wt.drew w') => HR0.out _ (below_step (below_drew hBt) hb))
              have HR1t := Lib.hid (fun (w' : World) (hb : Below wt.heap.size wt.drew w') => HR1.out _ (below_step (below_drew hBt) hb))
              have HR2t := Lib.hid (fun (w' : World) (hb : Below wt.heap.size wt.drew w') => HR2.out _ (below_step (below_drew hBt) hb))
              have HMK := Lib.hid (show m + 1 + mt = m + 1 by have := hmt.out; omega)
              have HOC := HOT
              have HSZ := Lib.hid hBt.size
              have HBt := Lib.hid hBt
              obtain ⟨q, hqq⟩ : ∃ q, q = wt.heap.size := ⟨_, rfl⟩
              rw [← hqq] at HRD HRT HR0t HR1t HR2t HSZ
              have hmb : m ≤ 100 := HMM.out
              clear hoXt hot hoX hbt hBt
              refine wp_region_late 12 1 (by kernel_rfl) (by kernel_rfl) (by kernel_rfl) (fun w w' => Below q w w') (fun _ => Below.refl _ _) (fun _ _ _ h m => h.trans m) (SNt A At ad2 m c1 n c2 m j mt ct o.del AK nk cK AV nv cV) (SNt_stays q _ _ _ _ _ _ _ _ _ _ _ _ _ _ _ _ _ _) (JNt q m m [.bool o.del, .slice AK nk cK, .slice AV nv cV] co)
                ⟨fun e => (by cases e), fun e => (by cases e), fun e => (by cases e), fun e => (by cases e), fun e => (by cases e), Nat.le_of_eq hqq⟩ ?_ ?_
              · clear hqq
                simp only [PhStep]
                refine ⟨?_, ?_, ?_, ?_, ?_, ?_, ?_, ?_, ?_, ?_, ?_, ?_, ?_, trivial⟩
                · intro L V w' hb hj hl hdo hcl hd
                  clear hdo hcl
                  clear hd
                  refine ⟨?_⟩
                  simp only [fillX, ne_eq, Nat.reduceEqDiff, not_false_eq_true, not_true_eq_false, if_true, if_false]
                  go_wp2
                  exact ⟨⟨rfl, rfl, Below.refl _ _, rfl⟩, (JNt_far _ _ _ _ _ hj (by decide) (by decide) (by decide) (by decide) (by decide))⟩
                · intro L V w' hb hj hl hdo hcl hd
                  clear hdo hcl
                  clear hd
                  refine ⟨?_⟩
                  simp only [fillX, ne_eq, Nat.reduceEqDiff, not_false_eq_true, not_true_eq_false, if_true, if_false]
                  go_wp2
                  exact ⟨⟨rfl, rfl, Below.refl _ _, rfl⟩, (JNt_far _ _ _ _ _ hj (by decide) (by decide) (by decide) (by decide) (by decide))⟩
                · intro L V w' hb hj hl hdo hcl hd
                  clear hdo hcl
                  simp only [DepFacts, SNt, Region.binds, forall_const, and_true] at hd
                  refine ⟨?_⟩
                  simp only [fillX, ne_eq, Nat.reduceEqDiff, not_false_eq_true, not_true_eq_false, if_true, if_false, hd]
                  clear hd
                  have q := hcutK
                  go_wp2
                  exact ⟨⟨rfl, rfl, Below.refl _ _, rfl⟩, (JNt_far _ _ _ _ _ hj (by decide) (by decide) (by decide) (by decide) (by decide))⟩
                · intro L V w' hb hj hl hdo hcl hd
                  have h9 : L 9 = false := Bool.eq_false_iff.2 fun e => by have := hcl 9 3 (by kernel_rfl) e; rw [this] at hl; cases hl
                  have h11 : L 11 = false := Bool.eq_false_iff.2 fun e => by have := hcl 11 9 (by kernel_rfl) e; rw [this] at h9; cases h9
                  have h12 : L 12 = false := Bool.eq_false_iff.2 fun e => by have := hcl 12 11 (by kernel_rfl) e; rw [this] at h11; cases h11
                  have hrd := HRD.out _ hb
                  have h8 := hj.2.1
                  have hq9 := hj.2.2.2.2.2
                  clear hdo hcl
                  simp only [DepFacts, SNt, Region.binds, forall_const, and_true] at hd
                  refine ⟨?_⟩
                  simp only [fillX, ne_eq, Nat.reduceEqDiff, not_false_eq_true, not_true_eq_false, if_true, if_false, hd]
                  clear hd
                  simp only [Act.put, List.setIfInBounds_toArray, List.set_cons_zero, List.set_cons_succ]
                  go_wp2_with (first | (at_builtin; refine wpList_append_rd _ rfl (.const (.slice none 0 0)) (.tmp 66) _ rfl q _ _ 3 56 hTU _ _ _ rfl (World.ownsRow_nil _ _ _ _) A m c1 (co.take (m * 3)) rfl HXT.out hrd HOC.out (by unfold maxLen; omega) (by omega) hq9 ?_; intro v2 w2 ho2 hg2 _; replace hg2 : World.grownBy w' w2 none := hg2) | fail)
                  rw [Nat.zero_add, List.nil_append] at ho2
                  have hb2 : Below w'.heap.size w' w2 := ⟨hg2.os, hg2.tape, hg2.output, hg2.size, fun m hk => hg2.block m hk (by simp)⟩
                  exact ⟨⟨rfl, rfl, ⟨hg2.os, hg2.tape, hg2.output, hg2.size, fun m hk => hg2.block m (Nat.lt_of_lt_of_le hk hq9) (by simp)⟩, trivial⟩, JNt_3 _ _ _ _ _ h9 h11 h12 ho2 (fun e => by obtain ⟨g, e1, e2⟩ := h8 e h9; exact ⟨g, e1, e2.ext hb2⟩) (Nat.le_trans hq9 hg2.size)⟩
                · intro L V w' hb hj hl hdo hcl hd
                  clear hdo hcl
                  clear hd
                  refine ⟨?_⟩
                  simp only [fillX, ne_eq, Nat.reduceEqDiff, not_false_eq_true, not_true_eq_false, if_true, if_false]
                  go_wp2
                  exact ⟨⟨rfl, rfl, Below.refl _ _, rfl⟩, (JNt_far _ _ _ _ _ hj (by decide) (by decide) (by decide) (by decide) (by decide))⟩
                · intro L V w' hb hj hl hdo hcl hd
                  clear hdo hcl
                  clear hd
                  refine ⟨?_⟩
                  simp only [fillX, ne_eq, Nat.reduceEqDiff, not_false_eq_true, not_true_eq_false, if_true, if_false]
                  go_wp2
                  exact ⟨⟨rfl, rfl, Below.refl _ _, rfl⟩, (JNt_far _ _ _ _ _ hj (by decide) (by decide) (by decide) (by decide) (by decide))⟩
                · intro L V w' hb hj hl hdo hcl hd
                  clear hdo hcl
                  simp only [DepFacts, SNt, Region.binds, forall_const, and_true] at hd
                  refine ⟨?_⟩
                  simp only [fillX, ne_eq, Nat.reduceEqDiff, not_false_eq_true, not_true_eq_false, if_true, if_false, hd]
                  clear hd
                  go_wp2
                  exact ⟨⟨rfl, rfl, Below.refl _ _, rfl⟩, (JNt_far _ _ _ _ _ hj (by decide) (by decide) (by decide) (by decide) (by decide))⟩
                · intro L V w' hb hj hl hdo hcl hd
                  have q0 := HR0t.out _ hb
                  have q1 := HR1t.out _ hb
                  have q2 := HR2t.out _ hb
                  clear hdo hcl
                  simp only [DepFacts, SNt, Region.binds, forall_const, and_true] at hd
                  refine ⟨?_⟩
                  simp only [fillX, ne_eq, Nat.reduceEqDiff, not_false_eq_true, not_true_eq_false, if_true, if_false, hd]
                  clear hd
                  go_wp2
                  exact ⟨⟨rfl, rfl, Below.refl _ _, rfl⟩, (JNt_far _ _ _ _ _ hj (by decide) (by decide) (by decide) (by decide) (by decide))⟩
                · intro L V w' hb hj hl hdo hcl hd
                  have h9 : L 9 = false := Bool.eq_false_iff.2 fun e => by have := hcl 9 8 (by kernel_rfl) e; rw [this] at hl; cases hl
                  have h11 : L 11 = false := Bool.eq_false_iff.2 fun e => by have := hcl 11 9 (by kernel_rfl) e; rw [this] at h9; cases h9
                  have h12 : L 12 = false := Bool.eq_false_iff.2 fun e => by have := hcl 12 11 (by kernel_rfl) e; rw [this] at h11; cases h11
                  have h3 := hj.1
                  have hq9 := hj.2.2.2.2.2
                  clear hdo hcl
                  simp only [DepFacts, SNt, Region.binds, forall_const, and_true] at hd
                  refine ⟨?_⟩
                  simp only [fillX, ne_eq, Nat.reduceEqDiff, not_false_eq_true, not_true_eq_false, if_true, if_false, hd]
                  clear hd
                  simp only [Act.put, List.setIfInBounds_toArray, List.set_cons_zero, List.set_cons_succ]
                  go_wp2_with (first | (refine wpList_row_one rfl (.tmp 71) rfl hTU (by decide) (cs := #[.bool o.del, .slice AK nk cK, .slice AV nv cV]) rfl rfl ?_; intro w2 hx2 hb2 hl2) | fail)
                  exact ⟨⟨rfl, rfl, ⟨hb2.os, hb2.tape, hb2.output, hb2.size, fun m hk => hb2.block m (Nat.lt_of_lt_of_le hk hq9)⟩, trivial⟩, JNt_8 _ _ _ _ _ h9 h11 h12 (fun e => own_ext (h3 e h9) hb2) ⟨_, rfl, hx2⟩ (Nat.le_trans hq9 hb2.size)⟩
                · intro L V w' hb hj hl hdo hcl hd
                  have h11 : L 11 = false := Bool.eq_false_iff.2 fun e => by have := hcl 11 9 (by kernel_rfl) e; rw [this] at hl; cases hl
                  have h12 : L 12 = false := Bool.eq_false_iff.2 fun e => by have := hcl 12 11 (by kernel_rfl) e; rw [this] at h11; cases h11
                  have ho3 := hj.1 (hdo 3 (by kernel_rfl)) hl
                  obtain ⟨g, e8, hx8⟩ := hj.2.1 (hdo 8 (by kernel_rfl)) hl
                  have hq9 := hj.2.2.2.2.2
                  clear hdo hcl hd
                  refine ⟨?_⟩
                  simp only [fillX, ne_eq, Nat.reduceEqDiff, not_false_eq_true, not_true_eq_false, if_true, if_false, e8]
                  clear e8
                  simp only [Act.put, List.setIfInBounds_toArray, List.set_cons_zero, List.set_cons_succ]
                  go_wp2_with (first | (at_builtin; refine wpList_append_rd _ rfl (.tmp 67) (.tmp 72) _ rfl q _ _ 3 56 hTU _ _ _ rfl ho3 (some ⟨g, 0, none⟩) 1 1 [.bool o.del, .slice AK nk cK, .slice AV nv cV] rfl rfl hx8.rd (by intro u hu; simp only [List.mem_cons, List.not_mem_nil, or_false] at hu; rcases hu with rfl | rfl | rfl <;> rfl) (by unfold maxLen; omega) (by omega) hq9 ?_; intro v2 w2 ho2 hg2 _) | fail)
                  exact ⟨⟨rfl, rfl, grown_below hg2 (fun x hx => (ho3.lt x hx).1) hq9, trivial⟩, JNt_9 _ _ _ _ _ h11 h12 ho2 (Nat.le_trans hq9 hg2.size)⟩
                · intro L V w' hb hj hl hdo hcl hd
                  clear hdo hcl
                  clear hd
                  refine ⟨?_⟩
                  simp only [fillX, ne_eq, Nat.reduceEqDiff, not_false_eq_true, not_true_eq_false, if_true, if_false]
                  go_wp2
                  exact ⟨⟨rfl, rfl, Below.refl _ _, rfl⟩, (JNt_far _ _ _ _ _ hj (by decide) (by decide) (by decide) (by decide) (by decide))⟩
                · intro L V w' hb hj hl hdo hcl hd
                  have h12 : L 12 = false := Bool.eq_false_iff.2 fun e => by have := hcl 12 11 (by kernel_rfl) e; rw [this] at hl; cases hl
                  have h9 : L 9 = true := hdo 9 (by kernel_rfl)
                  have ho9 := hj.2.2.1 h9 hl
                  have hrd := HRT.out _ hb
                  have hq9 := hj.2.2.2.2.2
                  clear hdo hcl
                  have e10 : V 10 = .slice At mt ct := by
                    simp only [DepFacts, SNt, Region.binds, forall_const, and_true, true_and] at hd
                    first | exact hd | exact hd.1 | exact hd.2
                  clear hd
                  refine ⟨?_⟩
                  simp only [fillX, ne_eq, Nat.reduceEqDiff, not_false_eq_true, not_true_eq_false, if_true, if_false, e10]
                  clear e10
                  simp only [Act.put, List.setIfInBounds_toArray, List.set_cons_zero, List.set_cons_succ]
                  go_wp2_with (first | (at_builtin; refine wpList_append_rd _ rfl (.tmp 73) (.tmp 74) _ rfl q _ _ 3 56 hTU _ _ _ rfl ho9 At mt ct (co.drop (m * 3)) rfl HXD.out hrd HOD.out (by unfold maxLen; omega) (by omega) hq9 ?_; intro v2 w2 ho2 hg2 _) | fail)
                  rw [HMK.out] at ho2
                  exact ⟨⟨rfl, rfl, grown_below hg2 (fun x hx => (ho9.lt x hx).1) hq9, trivial⟩, JNt_11 _ _ _ _ _ h9 h12 ho2 (Nat.le_trans hq9 hg2.size)⟩
                · intro L V w' hb hj hl hdo hcl hd
                  have h11 : L 11 = true := hdo 11 (by kernel_rfl)
                  have h9 : L 9 = true := hcl 11 9 (by kernel_rfl) h11
                  have ho := hj.2.2.2.1 h11
                  have hq9 := hj.2.2.2.2.2
                  clear hdo hcl hd
                  refine ⟨?_⟩
                  simp only [fillX, ne_eq, Nat.reduceEqDiff, not_false_eq_true, not_true_eq_false, if_true, if_false]
                  go_wp2
                  exact ⟨⟨rfl, rfl, Below.refl _ _, trivial⟩, JNt_12 _ _ _ _ _ h9 h11 ho hq9⟩
              · intro L V w9 hL hb9 hs hj
                have ho9 := hj.2.2.2.2.1 (hL 12 (by decide))
                clear hs hj hL HRD HRT HR0t HR1t HR2t
                have hsz := HSZ.out
                have hB9 : Below w.heap.size w w9 := (below_drew HBt.out).trans (Below.mono hb9 hsz)
                have ho9' := own_base ho9 hsz
                clear ho9 hqq
                simp only [fill]
                try simp only [Exit.then]
                try go_simp
                go_wp2
                go_roundw
                case rel => exact ⟨j + 1, m + 1, _, by omega, by go_num, ho9', HNEW.out, hB9⟩
                case measure => simp [RowKit.intOf]; omega
    · obtain rfl : j = n := by omega
      have f1 : decide ((j : Int) < j) = false := decide_eq_false (by omega)
      rw [HTK.out] at hrow
      go_wp2
      go_ret
      exact ⟨_, rfl, slice_of_own ho (by have := hrow.1; have := ho.1; omega) (hrow.ext rOp_stays hBr).2, hBr⟩
end Go.Mun
