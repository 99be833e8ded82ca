/- 'for _, x := range names', with a round that writes: the step. -/
import Derived.Test.YtdkccaiahgfjoaaFsCutP
namespace Go.Mun
open Go Go.RowKit Go.Proofs Go.Maps

theorem wpList_next_names {w : World} {ops : Array Oper} {rest : List Oper} {op : Oper} {a : Act} {Q : Exit → Act → World → Prop} (hg : op.guard = none) (it : Operand) (hop : op.op = Op.next it false) {bs r N : Nat} {P : PL Nat} {φ : Nat → Nat} {lf : Lit → Bool} {cnt : Nat}
    (hit : a.eval it = .pointer (some ⟨r, 0, none⟩)) (h : w.ranges Try.prog 9 RV bs r N (encM (idT φ P)) lf cnt)
    (hDone : cnt = 0 → (∀ kl, lf kl = false) → wpList Try.prog ops Q rest (a.put op.dst (.tuple #[.bool false])) w)
    (hMore : ∀ (n : Ky) (i : Nat) (w' : World) (cnt' : Nat), getP P n = some i → lf (.string n) = true → w'.ranges Try.prog 9 RV bs r N (encM (idT φ P)) (fun z => lf z && !z.sameKey (.string n)) cnt' → cnt' < cnt →
      w.grownBy w' (some r) → w'.heap.size = w.heap.size → (Instr.entry (.pointer (some ⟨r, 0, none⟩))).run Try.prog w' = .ok (.tuple #[.string ⟨n.toArray⟩, .pointer (some ⟨φ i, 0, none⟩)]) w' →
      wpList Try.prog ops Q rest (a.put op.dst (.tuple #[.bool true, .string ⟨n.toArray⟩, .pointer (some ⟨φ i, 0, none⟩)])) w') : wpList Try.prog ops Q (op :: rest) a w := by
  refine wpList_next_ranges w hg it hop 9 lawS RV (fun s : ByteArray => Value.string s) (fun v : Value => v) (fun key kl hk => ?_) (fun v y _ => ⟨v, rfl⟩) bs r N _ lf cnt hit h hDone ?_
  · obtain ⟨s, e, _⟩ := Go.WideMaps.string_of_keyOf Try.underlying9 hk
    exact ⟨s, e⟩
  · intro x c kl y w' cnt' hkey hl hv hat hrg hlt hgr hsz hen
    obtain ⟨s, e1, e2, _⟩ := Go.WideMaps.string_of_keyOf Try.underlying9 hkey
    injection e1 with e1
    subst e1 e2
    have hx : x = ⟨x.data.toList.toArray⟩ := by cases x; simp
    unfold RV at hv
    injection hv with hv
    subst hv
    generalize hn : x.data.toList = n at *
    cases hp : getP P n with
    | none =>
      have h1 := hat (.map [])
      rw [enc_none (idT_none hp)] at h1
      cases h1
    | some i =>
      have h1 := hat (.map [])
      rw [enc_at (idT_get hp)] at h1
      injection h1 with h1
      subst h1
      rw [hx] at hen ⊢
      exact hMore n i w' cnt' hp hl hrg hlt hgr hsz hen
theorem has_enc {α : Type} {T : PL (Value × α)} {n : Ky} {u : Value} {x : α} (h : getP T n = some (u, x)) : Maps.has (encM T) (.string n) = true := by
  obtain ⟨q, h1, _⟩ := enc_find h
  have h2 := List.find?_some h1
  have h3 := List.mem_of_find?_eq_some h1
  unfold encM Maps.has
  exact List.any_eq_true.2 ⟨q, h3, h2⟩
end Go.Mun
