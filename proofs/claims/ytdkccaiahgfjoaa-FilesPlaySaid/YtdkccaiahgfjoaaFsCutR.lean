/- Rows that are cut in place: the slice, what is left of the row, its room. -/
import Derived.Test.YtdkccaiahgfjoaaFsNext
namespace Go.Mun
open Go Go.RowKit Go.Proofs Go.Maps

theorem cutw_hB {P : Program} {t e : TypeId} {z : Value} {size bytes : Nat} (hT : SliceTy P t e z size bytes) (A : Option Addr) (n c : Nat) {kh : IntKind} {hi' : Int} {hi : Nat} (hhi : hi' = hi) (h2 : hi ≤ c) :
    ∀ w, (Instr.slice t (.slice A n c) none (some (.int kh hi')) none).run P w = .ok (.slice A hi c) w := by
  subst hhi
  intro w
  rw [run_slice_h w t A n c hT.under kh hi (by omega) (by omega), hT.sizeOf_elem]
  have e : ∀ A : Option Addr, A.map (·.add 0) = A := fun A => by cases A <;> simp [Addr.add]
  simp [Result.andThen, sliced, e]
theorem row_cap {w : World} {base n c size : Nat} {e : TypeId} {A : Option Addr} {xs : List Value} (ho : w.ownsRow base e size (.slice A n c) n xs) : n ≤ c := by
  rcases ho.2 with ⟨e1, e2⟩ | ⟨g, cap, cur, e1, hb, hh, hc, hm, hs, ht⟩
  · omega
  · injection e1 with e1 e3 e4
    omega
theorem own_headB {w : World} {base n c size at_ : Nat} {e : TypeId} {A : Option Addr} {xs : List Value} (ho : w.ownsRow base e size (.slice A n c) n xs) (h : at_ ≤ n) : w.ownsRow base e size (.slice A at_ c) at_ (xs.take (at_ * size)) := by
  obtain ⟨h1, h2⟩ := ho
  have hle : at_ * size ≤ n * size := Nat.mul_le_mul_right _ h
  refine ⟨by rw [List.length_take]; omega, ?_⟩
  rcases h2 with ⟨e1, e2⟩ | ⟨g, cap, cur, e1, hb, hh, hc, hm, hs, ht⟩
  · injection e1 with e1 e3 e4
    subst e1 e4
    exact .inl ⟨by rw [show at_ = 0 from by omega], by omega⟩
  · injection e1 with e1 e3 e4
    subst e1 e4
    exact .inr ⟨g, c, cur, rfl, hb, hh, by omega, hm, hs, by rw [← ht, List.take_take, Nat.min_eq_left hle]⟩
theorem Turn.beyond {k r : Nat} {o o' : Own} {w w' w'' : World} (h : Turn k o o' w w') (hg : w'.grownBy w'' (some r)) (hr : w.heap.size ≤ r) : Turn k o o' w w'' :=
  ⟨hg.os.trans h.os, hg.tape.trans h.tape, hg.output.trans h.output, Nat.le_trans h.size hg.size, fun b hb hn => (hg.block b (Nat.lt_of_lt_of_le hb h.size) (by intro e; injection e with e; omega)).trans (h.block b hb hn), h.old, h.new⟩
theorem Turn.wrote2 {k g : Nat} {t : Tag} {o o' : Own} {w w' w'' : World} (h : Turn k o o' w w') (hg : w'.grownBy w'' (some g)) (e : o g = some (k, t)) : Turn k o o' w w'' :=
  ⟨hg.os.trans h.os, hg.tape.trans h.tape, hg.output.trans h.output, Nat.le_trans h.size hg.size, fun b hb hn => (hg.block b (Nat.lt_of_lt_of_le hb h.size) (by intro e2; injection e2 with e2; subst e2; exact hn t e)).trans (h.block b hb hn), h.old, h.new⟩
theorem Turn.below2 {k : Nat} {o o' : Own} {w w' w'' : World} (h : Turn k o o' w w') (hb : Below w'.heap.size w' w'') : Turn k o o' w w'' :=
  ⟨hb.os.trans h.os, hb.tape.trans h.tape, hb.output.trans h.output, Nat.le_trans h.size hb.size, fun b hb' hn => (hb.block b (Nat.lt_of_lt_of_le hb' h.size)).trans (h.block b hb' hn), h.old, h.new⟩
/-- which files are found behind changes -/
theorem doL_ids : ∀ {l : List Chg} {P : PL Nat} {i : Nat}, ChgsOk P l → hasId (doL P l) i → hasId P i ∨ ∃ n, Chg.made n i ∈ l
  | [], _, _, _, h => .inl h
  | c :: l, P, i, hc, h => by
    rcases doL_ids (l := l) (P := doC P c) hc.2 h with ⟨p, hp, e⟩ | ⟨n, hn⟩
    · cases c with
      | made n j =>
        rcases mem_made (P := P) hp with hp | ⟨_, hp⟩
        · exact .inl ⟨p, hp, e⟩
        · exact .inr ⟨n, by rw [← e, hp]; exact List.mem_cons_self⟩
      | ren a b j =>
        rcases mem_ren (P := P) hp with hp | ⟨_, hp⟩
        · exact .inl ⟨p, hp, e⟩
        · exact .inl ⟨_, getP_mem hc.1.2.2.2, by rw [← e, hp]⟩
      | del a => exact .inl ⟨p, mem_del (P := P) hp, e⟩
    · exact .inr ⟨n, List.mem_cons_of_mem _ hn⟩
theorem doL_names : ∀ {l : List Chg} {P : PL Nat}, ChgsOk P l → (∀ p ∈ P, NameOk p.1) → ∀ p ∈ doL P l, NameOk p.1
  | [], _, _, h, p, hp => h p hp
  | c :: l, P, hc, h, p, hp => doL_names (l := l) (P := doC P c) hc.2 (fun q hq => by
      cases c with
      | made n j =>
        rcases mem_made (P := P) hq with hq | ⟨e, _⟩
        · exact h q hq
        · rw [e]; exact hc.1.1
      | ren a b j =>
        rcases mem_ren (P := P) hq with hq | ⟨e, _⟩
        · exact h q hq
        · rw [e]; exact hc.1.2.1
      | del a => exact h q (mem_del (P := P) hq)) p hp
theorem left_live {M : FSs} (h : Fine M) {i : Nat} (hi : hasId (left M) i) : Live M i := by
  rcases doL_ids (h.ok.take _) hi with h1 | ⟨n, h1⟩
  · exact .inr (.inl h1)
  · exact .inr (.inr ⟨n, List.mem_of_mem_take h1⟩)
theorem live_lt {M : FSs} (h : Fine M) {i : Nat} (hi : Live M i) : i < M.next := by
  rcases hi with ⟨p, hp, e⟩ | ⟨p, hp, e⟩ | ⟨n, hn⟩
  · rw [← e]; exact h.fresh p hp
  · rw [← e]; exact h.sfresh p hp
  · exact h.made n i hn
open Classical in
theorem Fine.crash {M : FSs} (h : Fine M) : Fine (crashM M) := by
  have hl : Rises (left M) := doL_rises h.rsyn _
  have hn : ∀ p ∈ left M, NameOk p.1 := doL_names (h.ok.take _) h.snames
  have hi : ∀ p ∈ left M, p.2 < M.next := fun p hp => live_lt h (left_live h ⟨p, hp, rfl⟩)
  refine ⟨hl, hl, rfl, trivial, hn, hn, hi, hi, fun n i h => absurd h List.not_mem_nil, fun i => ?_, h.once.doL h.rsyn (h.ok.take _), Int.le_refl _⟩
  show ((if hasId (left M) i then cutF M.cut (M.fs i) else M.fs i) : FileS).s ≤ ((if hasId (left M) i then cutF M.cut (M.fs i) else M.fs i) : FileS).b.length
  have hs := h.sized i
  split
  · have := cutAt_le (cut := M.cut) hs
    show cutAt M.cut (M.fs i) ≤ ((M.fs i).b.take (cutAt M.cut (M.fs i))).length
    rw [List.length_take]
    omega
  · exact hs
end Go.Mun
