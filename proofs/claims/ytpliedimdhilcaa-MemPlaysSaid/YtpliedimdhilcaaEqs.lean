/- Arrays of numbers compared. Over any program. -/
import Derived.Test.YtpliedimdhilcaaTab
import Derived.ChangeKeysEq
namespace Go.Mun
open Go Go.RowKit

theorem run_eqItems_tab {P : Program} {e : TypeId} {kk : IntKind} (he : P.plainKey e = true) (hu : P.underlying e = some (.int kk)) (hc : P.cellsOf e = 1) (f g : Nat → Nat) (m d : Nat) (w : World) : ∀ (is : List Nat), (∀ j ∈ is, j < m) →
    (Op.eqItems (d + 1) e (P.cellsOf e) (tab kk m f) (tab kk m g) is).run P w = .ok (is.all fun j => f j == g j) w
  | [], _ => by simp [Op.eqItems]
  | j :: is, h => by
    have hj := h j (by simp)
    have ih := run_eqItems_tab he hu hc f g m d w is (fun j hj => h j (by simp [hj]))
    have p1 := run_part_plain (P := P) w he (xs := tab kk m f) (off := j * P.cellsOf e) (v := .int kk (f j : Nat)) (by rw [hc, Nat.mul_one]; exact tab_get hj)
    have p2 := run_part_plain (P := P) w he (xs := tab kk m g) (off := j * P.cellsOf e) (v := .int kk (g j : Nat)) (by rw [hc, Nat.mul_one]; exact tab_get hj)
    have p3 := run_equalIn_int (P := P) w d e kk kk ((f j : Nat) : Int) ((g j : Nat) : Int) hu
    have e3 : (((f j : Nat) : Int) == ((g j : Nat) : Int)) = (f j == g j) := by
      rw [Bool.eq_iff_iff, beq_iff_eq, beq_iff_eq]
      omega
    rw [e3] at p3
    simp only [Op.eqItems, Sem.run_bind, p1, p2, p3, Result.andThen_ok, List.all_cons]
    cases h2 : (f j == g j)
    · simp
    · simp [ih]
theorem run_eq_tab {P : Program} {t e : TypeId} {kk : IntKind} {m : Nat} {i : TypeInfo} (ht : P.underlying t = some (.array m e)) (he : P.plainKey e = true) (hu : P.underlying e = some (.int kk)) (hi : P.info? e = some i) (hs : i.size = 1) (f g : Nat → Nat) (d : Nat) (w : World) :
    (Op.equalIn (d + 2) t (.agg (tab kk m f)) (.agg (tab kk m g))).run P w = .ok ((List.range m).all fun j => f j == g j) w := by
  rw [run_equalIn_array (P := P) w (d + 1) _ _ ht hi]
  exact run_eqItems_tab he hu (by unfold Program.cellsOf; rw [hi]; exact hs) f g m d w (List.range m) (fun j hj => List.mem_range.1 hj)
theorem all_limbs {a b : Nat} (ha : a < 2 ^ 256) (hb : b < 2 ^ 256) : ((List.range 4).all fun j => limb a j == limb b j) = decide (a = b) := by
  rw [Bool.eq_iff_iff, List.all_eq_true, decide_eq_true_iff]
  constructor
  · intro h
    exact limbs_ext ha hb fun j hj => by simpa using h j (List.mem_range.2 hj)
  · intro h j _
    simp [h]
theorem all_bytes {a b : Nat} (ha : a < 2 ^ 256) (hb : b < 2 ^ 256) : ((List.range 32).all fun j => lowB a (31 - j) == lowB b (31 - j)) = decide (a = b) := by
  rw [Bool.eq_iff_iff, List.all_eq_true, decide_eq_true_iff]
  constructor
  · intro h
    exact bytes_ext ha hb fun j hj => by
      have := h (31 - j) (List.mem_range.2 (by omega))
      rw [show 31 - (31 - j) = j from by omega] at this
      simpa using this
  · intro h j _
    simp [h]
end Go.Mun
