/- A memory that is grown from nothing, and all of its bytes. -/
import Derived.Test.YtpliedimdhilcaaMemGet
import Derived.Test.YtpliedimdhilcaaStr
namespace Go.Mun
open Go Go.RowKit Go.Proofs

theorem bv_zeros (n : Nat) : bv (List.replicate n 0) = List.replicate n (Value.int .u8 0) := by simp [bv]
theorem Grow_new (y L : Nat) (w : World) (g base : Nat) (hy : y ≤ 1048576) (hL : Hid (L = 32 * ((y + 31) / 32)))
    (hm : Blk w g 35 #[.slice none 0 0]) (hg : g < base) (hbs : base ≤ w.heap.size) :
    Calls Try.prog 15 #[.pointer (some ⟨g, 0, none⟩), .agg (wcells 0), .agg (wcells y)] w fun e w' =>
      (∃ z, e = .returned (.tuple #[.int .i64 z, .bool true])) ∧ ∃ A' c', Blk w' g 35 #[.slice A' L c'] ∧
        w'.ownsRow base 5 1 (.slice A' L c') L (bv (List.replicate L 0)) ∧ Kept base g w w' := by
  obtain ⟨q, hq⟩ : ∃ q, q = (y + 31) / 32 := ⟨_, rfl⟩
  have e : L = 32 * q := by rw [hL.out, hq]
  subst e
  refine (Grow_at0 y w g base 0 q 0 none [] hy (by omega) (Lib.hid (by omega)) hm (World.ownsRow_nil _ _ _ _) hg hbs).mono ?_
  rintro e w' ⟨rfl, A', c', h1, h2, h3⟩
  refine ⟨⟨_, rfl⟩, A', c', h1, ?_, h3⟩
  rw [bv_zeros]
  exact h2
theorem Get_at (at_ n : Nat) (w : World) (g L c : Nat) (A : Option Addr) (l : List UInt8) (hL : L ≤ 1048576) (ha : (at_ : Int) ≤ 9223372036854775807) (hfit : n = 0 ∨ at_ + n ≤ L)
    (hm : Blk w g 35 #[.slice A L c]) (hl : Bytes w (.slice A L c) l) :
    Calls Try.prog 33 #[.pointer (some ⟨g, 0, none⟩), .int .i64 at_, .int .i64 n] w fun e w' => ∃ A' c', e = .returned (.slice A' n c') ∧ w'.ownsRow w.heap.size 5 1 (.slice A' n c') n (bv ((l.drop at_).take n)) ∧ Below w.heap.size w w' := by
  by_cases h0 : n = 0
  · subst h0
    have hc : L ≤ c := by
      obtain ⟨_, _, _, e, _, h2, _⟩ := hl
      injection e with e1 e2 e3
      omega
    refine (Get_none at_ w g L c A hc ha hm).mono ?_
    rintro e w' ⟨v, rfl, ho, hb⟩
    obtain ⟨A', c', rfl⟩ := own_isSlice ho
    exact ⟨A', c', rfl, by simpa using ho, hb⟩
  · refine (Get_some at_ n w g L c A l hL (by omega) (by omega) hm hl).mono ?_
    rintro e w' ⟨v, rfl, ho, hb⟩
    obtain ⟨A', c', rfl⟩ := own_isSlice ho
    exact ⟨A', c', rfl, ho, hb⟩
theorem Get_all (w : World) (g L c : Nat) (A : Option Addr) (l : List UInt8) (hL : L ≤ 1048576)
    (hm : Blk w g 35 #[.slice A L c]) (hl : Bytes w (.slice A L c) l) :
    Calls Try.prog 33 #[.pointer (some ⟨g, 0, none⟩), .int .i64 0, .int .i64 L] w fun e w' => ∃ A' c', e = .returned (.slice A' L c') ∧ w'.ownsRow w.heap.size 5 1 (.slice A' L c') L (bv l) ∧ Below w.heap.size w w' := by
  have hll : l.length = L := by
    obtain ⟨_, _, _, e, h2, _⟩ := hl
    injection e with e1 e2 e3
    omega
  refine (Get_at 0 L w g L c A l hL (by omega) (.inr (by omega)) hm hl).mono ?_
  rintro e w' ⟨A', c', rfl, ho, hb⟩
  refine ⟨A', c', rfl, ?_, hb⟩
  rw [List.drop_zero, List.take_of_length_le (by omega)] at ho
  exact ho
end Go.Mun
