/- A stack of words: what it is in memory, and how it is read. -/
import Derived.Test.YtpliedimdhilcaaMemAlive
namespace Go.Mun
open Go Go.RowKit Go.Proofs

/-- the words' cells, one behind the other -/
def wrow (l : List Nat) : List Value := l.flatMap fun x => (wcells x).toList
theorem wrow_nil : wrow [] = [] := rfl
theorem wrow_append (l l' : List Nat) : wrow (l ++ l') = wrow l ++ wrow l' := by simp [wrow]
theorem wrow_one (x : Nat) : wrow [x] = (wcells x).toList := by simp [wrow]
theorem wrow_length (l : List Nat) : (wrow l).length = l.length * 32 := by
  induction l with
  | nil => rfl
  | cons x l ih =>
    have : wrow (x :: l) = (wcells x).toList ++ wrow l := rfl
    rw [this, List.length_append, ih, Array.length_toList, wcells_size, List.length_cons]
    omega
theorem wordsTy : SliceTy Try.prog 41 25 (.agg (wcells 0)) 32 32 := SliceTy.mk' Try.underlying41 (by rw [← wcells_lit0]; kernel_rfl) (by simp [Value.cells, wcells_size]) (by decide)
theorem stackTy : AggTy Try.prog 43 1 := ⟨⟨_, Try.underlying43, rfl⟩, by kernel_rfl⟩
theorem zStack : (Try.prog.info? 43).bind (·.zero) = some (.agg #[.slice none 0 0]) := by kernel_rfl

theorem Len_any (w : World) (g L c : Nat) (A : Option Addr) (h : Blk w g 43 #[.slice A L c]) :
    Calls Try.prog 22 #[.pointer (some ⟨g, 0, none⟩)] w fun e w' => e = .returned (.int .i64 L) ∧ w = w' := by
  have hc := h.cellv (i := 0) rfl
  go_enter Try.func22, Try.ntmps22
  go_wp2
  go_ret
  exact ⟨rfl, rfl⟩
end Go.Mun
