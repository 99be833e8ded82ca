/- The calls that ask for a name: named, is, Read. -/
import Derived.Test.YtdkccaiahgfjoaaFsHead
import Derived.Test.YtdkccaiahgfjoaaStr
namespace Go.Mun
open Go Go.RowKit Go.Proofs Go.Maps

theorem enc_none {α : Type} {T : PL (Value × α)} {k : Ky} (h : getP T k = none) (z : DataW Value) : (encM T).atKey (.string k) z = z := by
  have hf : (T.map encE).find? (fun p => p.1.sameKey (.string k)) = none := by
    induction T with
    | nil => rfl
    | cons p T ih =>
      have hs : (encE p).1.sameKey (.string k) = (p.1 == k) := rfl
      rw [List.map_cons, List.find?_cons, hs]
      by_cases hp : p.1 = k
      · rw [getP, if_pos hp] at h; cases h
      · rw [getP, if_neg hp] at h
        rw [beq_eq_false_iff_ne.2 hp]
        exact ih h
  simp only [encM, DataW.atKey, hf]
/-- 'm[k]', where nothing is -/
theorem MapV.look_none {α : Type} {w : World} {b N : Nat} {T : PL (Value × α)} {t e : TypeId} (h : MapV w b T N) (ht : Try.prog.underlying t = some (.map 9 e)) {z : Value} (hz : (zeroValue e).run Try.prog w = .ok z w) {k : Ky} (hk : k.length ≤ maxLen) (hg : getP T k = none) :
    (Instr.lookup t (.map (some b)) (.string ⟨k.toArray⟩) false).run Try.prog w = .ok z w := by
  obtain ⟨v, ps, hr, hv⟩ := World.ownsMap.lookup h lawS ht hz (zd := .held z) (zp := []) rfl (key_of hk)
  rw [enc_none hg] at hv
  unfold RV at hv
  simp only [Option.some.injEq, Prod.mk.injEq, DataW.held.injEq] at hv
  rw [hr, hv.1]
theorem namesTy : Try.prog.underlying 56 = some (.map 9 60) := Try.underlying56
theorem zFileP (w : World) : (zeroValue 60).run Try.prog w = .ok (.pointer none) w := by kernel_rfl
theorem idT_none {φ : Nat → Nat} {P : PL Nat} {k : Ky} (h : getP P k = none) : getP (idT φ P) k = none := by
  unfold idT
  rw [getP_map, h]
  rfl
theorem named_yes (n : Ky) (w : World) (h : NameOk n) : Calls Try.prog 29 #[.string ⟨n.toArray⟩] w fun e w' => e = .returned (.bool true) ∧ w = w' := by
  have q : n.isEmpty = false := by have := h.1; cases n <;> simp_all
  have hl := h.2
  have d : decide ((n.length : Int) ≤ 100) = true := decide_eq_true (by omega)
  clear h
  go_enter Try.func29, Try.ntmps29
  go_wp2
  go_ret
  exact ⟨rfl, rfl⟩
theorem named_no (n : Ky) (w : World) (h : ¬ NameOk n) (hn : n.length ≤ 1000000) : Calls Try.prog 29 #[.string ⟨n.toArray⟩] w fun e w' => e = .returned (.bool false) ∧ w = w' := by
  by_cases h0 : n = []
  · subst h0
    go_enter Try.func29, Try.ntmps29
    go_wp2
    go_ret
    exact ⟨rfl, rfl⟩
  · have q : n.isEmpty = false := by cases n <;> simp_all
    have hl : 100 < n.length := by
      rcases Nat.lt_or_ge 100 n.length with h1 | h1
      · exact h1
      · exact absurd ⟨h0, h1⟩ h
    have d : decide ((n.length : Int) ≤ 100) = false := decide_eq_false (by omega)
    clear h h0
    go_enter Try.func29, Try.ntmps29
    go_wp2
    go_ret
    exact ⟨rfl, rfl⟩
/-- is there power, and such a file? -/
def isB (M : FSs) (n : Ky) : Bool := !M.dead && (getP M.now n).isSome
section
variable {k p : Nat} {M : FSs} {φ : Nat → Nat} {o : Own} {K L : Nat} {w : World}
set_option maxRecDepth 100000 in
theorem is_any (h : RelP k p M φ o K L w) (n : Ky) (hn : n.length ≤ 1000000) : Calls Try.prog 35 #[.pointer (some ⟨p, 0, none⟩), .string ⟨n.toArray⟩] w fun e w' => e = .returned (.bool (isB M n)) ∧ w = w' := by
  obtain ⟨bn, bs, vw, vk, hh⟩ := h.head
  have y0 := hh.blk.cellv (i := 0) rfl
  have y6 := hh.blk.cellv (i := 6) rfl
  obtain ⟨N, hN, _⟩ := hh.now
  have hm : n.length ≤ maxLen := by unfold maxLen; omega
  cases hd : M.dead
  · rw [hd] at y6
    cases hg : getP M.now n with
    | none =>
      have q := hN.look_none namesTy (zFileP w) hm (idT_none hg)
      have e : isB M n = false := by unfold isB; rw [hd, hg]; rfl
      rw [e]
      clear e hg hN hm hd hh h
      go_enter Try.func35, Try.ntmps35
      go_wp2
      go_ret
      exact ⟨rfl, rfl⟩
    | some i =>
      have q := hN.look namesTy (zFileP w) hm (idT_get hg)
      have e : isB M n = true := by unfold isB; rw [hd, hg]; rfl
      rw [e]
      clear e hg hN hm hd hh h
      go_enter Try.func35, Try.ntmps35
      go_wp2
      go_ret
      exact ⟨rfl, rfl⟩
  · rw [hd] at y6
    have e : isB M n = false := by unfold isB; rw [hd]; rfl
    rw [e]
    clear e hN hm hd hh h
    go_enter Try.func35, Try.ntmps35
    go_wp2
    go_ret
    exact ⟨rfl, rfl⟩
end
end Go.Mun
