/- Maps by strings of which it is known what lies at each key; their keys, rising. -/
import Derived.Test.YtdkccaiahgfjoaaPairPlain
import Derived.Test.YtdkccaiahgfjoaaBlk
import Derived.Test.YtdkccaiahgfjoaaProg
import Derived.Maps.OwnSet
import Derived.StringKeys
import Derived.Shelf.SlIter.Nil
import Derived.Shelf.SortM.Plain
namespace Go.Mun
open Go Go.RowKit Go.Proofs Go.Maps

/-- an element, as it lies -/
def RV (v : Value) : Option (DataW Value × List MemPlace) := some (.held v, [])
section
variable {α : Type}
def encE (p : Ky × (Value × α)) : Lit × DataW Value := (.string p.1, .held p.2.1)
def encM (T : PL (Value × α)) : DataW Value := .map (T.map encE)
theorem enc_ins (x : Ky × (Value × α)) (T : PL (Value × α)) : DataW.insert (encE x) (T.map encE) = (insP x T).map encE := by
  induction T with
  | nil => rfl
  | cons y T ih =>
    have hb : (encE x).1.before (encE y).1 = ltB x.1 y.1 := rfl
    show DataW.insert (encE x) (encE y :: T.map encE) = _
    unfold DataW.insert insP
    rw [hb]
    split
    · rfl
    · rw [ih]
      rfl
theorem enc_drop (T : PL (Value × α)) (k : Ky) : (T.map encE).filter (fun p => !p.1.sameKey (.string k)) = (dropP T k).map encE := by
  unfold dropP
  rw [List.filter_map]
  congr 1
  refine List.filter_congr fun p _ => ?_
  show (!(p.1 == k)) = decide (p.1 ≠ k)
  by_cases h : p.1 = k
  · simp [h]
  · simp [h]
theorem enc_put (T : PL (Value × α)) (k : Ky) (u : Value) (a : α) : (encM T).put (.string k) (.held u) = encM (setP T k (some (u, a))) := by
  show DataW.map (DataW.insert (Lit.string k, DataW.held u) ((T.map encE).filter fun p => !p.1.sameKey (.string k))) = _
  rw [enc_drop]
  exact congrArg _ (enc_ins (k, (u, a)) (dropP T k))
theorem enc_del (T : PL (Value × α)) (k : Ky) : (encM T).del (.string k) = encM (setP T k none) := congrArg DataW.map (enc_drop T k)
theorem enc_find {T : PL (Value × α)} {k : Ky} {u : Value} {a : α} (h : getP T k = some (u, a)) : ∃ q, (T.map encE).find? (fun p => p.1.sameKey (.string k)) = some q ∧ q.2 = .held u := by
  induction T with
  | nil => cases h
  | cons p T ih =>
    have hs : (encE p).1.sameKey (.string k) = (p.1 == k) := rfl
    rw [List.map_cons, List.find?_cons, hs]
    by_cases hp : p.1 = k
    · rw [getP, if_pos hp] at h
      injection h with h
      rw [beq_iff_eq.2 hp]
      exact ⟨_, rfl, by rw [encE, h]⟩
    · rw [getP, if_neg hp] at h
      rw [beq_eq_false_iff_ne.2 hp]
      exact ih h
theorem enc_at {T : PL (Value × α)} {k : Ky} {u : Value} {a : α} (h : getP T k = some (u, a)) (z : DataW Value) : (encM T).atKey (.string k) z = .held u := by
  obtain ⟨q, h1, h2⟩ := enc_find h
  simp only [encM, DataW.atKey, h1]
  exact h2
theorem enc_keys (T : PL (Value × α)) : strKeys (encM T) = T.map (·.1) := by
  show (T.map encE).map (fun p => strOf p.1) = _
  rw [List.map_map]
  rfl
theorem enc_size (T : PL (Value × α)) : Maps.size (encM T) = T.length := by
  show (T.map encE).length = _
  rw [List.length_map]
/-- block b is the map T; it has at most N entries -/
def MapV (w : World) (b : Nat) (T : PL (Value × α)) (N : Nat) : Prop := w.ownsMap Try.prog 9 RV b N (encM T)
theorem lawS : Keyed Try.prog 9 := string_keyed Try.underlying9
theorem key_of {k : Ky} (hk : k.length ≤ maxLen) : keyOf Try.prog 9 (.string ⟨k.toArray⟩) = some (.string k) := WideMaps.keyOf_string_mk (P := Try.prog) Try.underlying9 (by simpa [ByteArray.size] using hk)
theorem MapV.made (w : World) : MapV (α := α) (w.alloc (.map #[] 0)) w.heap.size [] 0 := World.ownsMap_made w _ _ _
theorem MapV.ext {w w' : World} {b N : Nat} {T : PL (Value × α)} (h : MapV w b T N) (hb : Below w.heap.size w w') : MapV w' b T N :=
  World.ownsMap.kept (row := none) h ⟨hb.os, hb.tape, hb.output, hb.size, fun k hk _ => hb.block k hk⟩ (by simp)
theorem MapV.kept {w w' : World} {b N : Nat} {r : Option Nat} {T : PL (Value × α)} (h : MapV w b T N) (hg : w.grownBy w' r) (hne : some b ≠ r) : MapV w' b T N := World.ownsMap.kept h hg hne
theorem MapV.lt {w : World} {b N : Nat} {T : PL (Value × α)} (h : MapV w b T N) : b < w.heap.size := World.ownsMap.lt h
theorem turned_grown {w w' : World} {b : Nat} (h : w.mapTurned w' b) : w.grownBy w' (some b) := by
  obtain ⟨es, clock, es', clock', hb, rfl⟩ := h
  exact ⟨rfl, rfl, rfl, by simp [ChangeMaps.setBlock], fun i _ hi => ChangeMaps.heap_setBlock_other hb _ (fun e => hi (by rw [e]))⟩
/-- 'm[k]' -/
theorem MapV.look {w : World} {b N : Nat} {T : PL (Value × α)} {t e : TypeId} (h : MapV w b T N) (ht : Try.prog.underlying t = some (.map 9 e)) {z : Value} (hz : (zeroValue e).run Try.prog w = .ok z w) {k : Ky} (hk : k.length ≤ maxLen) {u : Value} {a : α} (hg : getP T k = some (u, a)) :
    (Instr.lookup t (.map (some b)) (.string ⟨k.toArray⟩) false).run Try.prog w = .ok u w := by
  obtain ⟨v, ps, hr, hv⟩ := World.ownsMap.lookup h lawS ht hz (zd := .held z) (zp := []) rfl (key_of hk)
  rw [enc_at hg] at hv
  unfold RV at hv
  simp only [Option.some.injEq, Prod.mk.injEq, DataW.held.injEq] at hv
  rw [hr, hv.1]
section
variable {ops : Array Oper} {rest : List Oper} {o : Oper} {x : Act} {w : World} {Q : Exit → Act → World → Prop}
/-- 'm[k] = v' -/
theorem wpList_put_map (hg : o.guard = none) (m kx v : Operand) (t e : TypeId) (hop : o.op = Op.mapUpdate t m kx v) (ht : Try.prog.underlying t = some (.map 9 e)) {b N : Nat} {T : PL (Value × α)} (hm : x.eval m = .map (some b)) (h : MapV w b T N) (hn : N < maxLen)
    {k : Ky} (hk : k.length ≤ maxLen) {u : Value} (hx : x.eval kx = .string ⟨k.toArray⟩) (hv : x.eval v = u) (a : α) (hK : ∀ w', MapV w' b (setP T k (some (u, a))) (N + 1) → w.grownBy w' (some b) → wpList Try.prog ops Q rest (x.put o.dst undef) w') : wpList Try.prog ops Q (o :: rest) x w :=
  wpList_mapUpdate_own w hg m kx v t hop _ e lawS ht RV b N (encM T) hm h hn _ _ (.string k) hx hv (key_of hk) (.held u) [] rfl fun w' h1 h2 => hK w' (by rw [enc_put T k u a] at h1; exact h1) h2
/-- 'delete(m, k)' -/
theorem wpList_del_map (hg : o.guard = none) (m kx : Operand) (t e : TypeId) (hop : o.op = Op.call { callee := Callee.builtin Builtin.delete, args := #[m, kx], argTypes := #[t, 9] }) (ht : Try.prog.underlying t = some (.map 9 e)) {b N : Nat} {T : PL (Value × α)} (hm : x.eval m = .map (some b)) (h : MapV w b T N)
    {k : Ky} (hk : k.length ≤ maxLen) (hx : x.eval kx = .string ⟨k.toArray⟩) (hK : ∀ w', MapV w' b (setP T k none) N → w.grownBy w' (some b) → wpList Try.prog ops Q rest (x.put o.dst (.tuple #[])) w') : wpList Try.prog ops Q (o :: rest) x w :=
  wpList_delete_own w hg m kx t _ hop e lawS ht RV b N (encM T) hm h _ (.string k) hx (key_of hk) fun w' h1 h2 => hK w' (by rw [enc_del] at h1; exact h1) (turned_grown h2)
end
theorem rises_sorted {T : PL (Value × α)} (h : Rises T) : (T.map (·.1)).mergeSort leB = T.map (·.1) := by
  refine List.mergeSort_of_pairwise (List.pairwise_map.2 (List.Pairwise.imp ?_ h))
  intro p q hpq
  have h1 : p.1 < q.1 := by
    have := bytesLess_eq p.1 q.1
    rw [less_eq, hpq] at this
    exact of_decide_eq_true this.symm
  exact decide_eq_true (List.le_of_lt h1)
/-- a string value -/
def strV (k : Ky) : Value := .string ⟨k.toArray⟩
theorem sorted_keys {w : World} {base : Nat} {v : Value} {ss : List Ky} {T : PL (Value × α)} (hT : Rises T) (hp : ss.Perm (strKeys (encM T))) (ho : w.ownsRow base 9 1 v ss.length ((ss.mergeSort (fun x y => decide (x ≤ y))).map encStr)) :
    w.ownsRow base 9 1 v T.length (T.map fun p => strV p.1) := by
  rw [enc_keys] at hp
  have e1 : ss.mergeSort (fun x y => decide (x ≤ y)) = T.map (·.1) := (mergeSort_of_perm hp).trans (rises_sorted hT)
  have e2 : ss.length = T.length := by rw [hp.length_eq, List.length_map]
  rw [e1, e2, List.map_map] at ho
  exact ho
end
end Go.Mun
