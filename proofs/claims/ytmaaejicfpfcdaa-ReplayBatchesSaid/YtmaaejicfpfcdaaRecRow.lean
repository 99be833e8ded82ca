/- Records one behind the other: their bytes, and the rows of records that lie in memory. -/
import Derived.Test.YtmaaejicfpfcdaaRecArg
import Derived.Test.YtmaaejicfpfcdaaRecAlive
import Derived.Test.YtmaaejicfpfcdaaRowOne
import Derived.Deep.MidRow
namespace Go.Mun
open Go Go.RowKit Go.Proofs Go.ChangeShapes Go.WideShapes Go.ChangeAt

/-- a change, as it lies in three cells -/
def rOp : Reader Rec := fun w cs r => cs.length = 3 → ∃ kv vv, cs = [.bool r.del, kv, vv] ∧ r.kind = 1 ∧ r.n = 0 ∧ Bytes w kv r.key ∧ Bytes w vv r.value
theorem opens_op {H : Type} (enc : TypeId × Value → H) : Opens enc Try.prog 0 (fun _ => true) true 34 rOp := by
  intro w fuel cs x hx
  obtain ⟨n3, y3, h3⟩ := trod_at Try.underlying34 hx 0 rfl (e := 4) (off := 0) (size := 1) rfl rfl (by kernel_rfl)
  obtain ⟨n4, y4, h4⟩ := trod_at Try.underlying34 hx 1 rfl (e := 24) (off := 1) (size := 1) rfl rfl (by kernel_rfl)
  obtain ⟨n5, y5, h5⟩ := trod_at Try.underlying34 hx 2 rfl (e := 24) (off := 2) (size := 1) rfl rfl (by kernel_rfl)
  obtain ⟨del, hd⟩ := opens_bool enc 0 (fun _ => true) true Try.underlying4 w n3 _ y3 h3
  obtain ⟨key, kv, hkv, hkb⟩ := opens_bytes enc 0 (fun _ => true) true Try.underlying24 Try.underlying5 (by kernel_rfl) w n4 _ y4 h4
  obtain ⟨value, vv, hvv, hvb⟩ := opens_bytes enc 0 (fun _ => true) true Try.underlying24 Try.underlying5 (by kernel_rfl) w n5 _ y5 h5
  refine ⟨⟨1, del, key, value, 0⟩, fun hl => ?_⟩
  match cs, hl with
  | [a1, a2, a3], _ =>
    unfold rBool at hd
    simp at hd hkv hvv
    subst hd
    subst hkv
    subst hvv
    exact ⟨_, _, rfl, rfl, rfl, hkb, hvb⟩

/-- a record with the slices in which its bytes lie -/
abbrev RItem := Rec × Value × Value
def itC (x : RItem) : List Value := [.int .i64 x.1.kind, .bool x.1.del, x.2.1, x.2.2, .int .i64 x.1.n]
def allC (L : List RItem) : List Value := L.flatMap itC
def allB (L : List RItem) : List UInt8 := L.flatMap fun x => x.1.bytes
theorem allC_length (L : List RItem) : (allC L).length = L.length * 5 := by
  induction L with
  | nil => rfl
  | cons x L ih =>
    have : allC (x :: L) = itC x ++ allC L := rfl
    rw [this, List.length_append, ih, List.length_cons]
    show 5 + _ = _
    omega
theorem allC_append (L M : List RItem) : allC (L ++ M) = allC L ++ allC M := by simp [allC]
theorem allB_append (L M : List RItem) : allB (L ++ M) = allB L ++ allB M := by simp [allB]
theorem allC_one (x : RItem) : allC [x] = itC x := by simp [allC]
theorem allB_one (x : RItem) : allB [x] = x.1.bytes := by simp [allB]
structure ItOk (w : World) (x : RItem) : Prop where
  err : x.1.err = 0
  key : Bytes w x.2.1 x.1.key
  value : Bytes w x.2.2 x.1.value
  len : x.1.bytes.length ≤ 500
theorem ItOk.one {w : World} {x : RItem} (h : ItOk w x) : ∀ u ∈ itC x, u.oneCell' = true := by
  obtain ⟨_, _, _, e1, _⟩ := h.key
  obtain ⟨_, _, _, e2, _⟩ := h.value
  intro u hu
  simp only [itC, List.mem_cons, List.not_mem_nil, or_false] at hu
  rcases hu with rfl | rfl | rfl | rfl | rfl
  · rfl
  · rfl
  · rw [e1]; rfl
  · rw [e2]; rfl
  · rfl
theorem allB_bd {w : World} {L : List RItem} (h : ∀ x ∈ L, ItOk w x) : (allB L).length ≤ 500 * L.length := by
  induction L with
  | nil => exact Nat.zero_le _
  | cons x L ih =>
    have : allB (x :: L) = x.1.bytes ++ allB L := rfl
    rw [this, List.length_append, List.length_cons]
    have h1 := (h x (by simp)).len
    have h2 := ih fun y hy => h y (by simp [hy])
    omega
theorem allC_get (L : List RItem) : ∀ {k j : Nat} {x : RItem}, L[k]? = some x → j < 5 → (allC L)[k * 5 + j]? = (itC x)[j]? := by
  induction L with
  | nil => intro k j x h; simp at h
  | cons y L ih =>
    intro k j x h hj
    have e : allC (y :: L) = itC y ++ allC L := rfl
    have hs : (itC y).length = 5 := rfl
    rw [e]
    cases k with
    | zero =>
      simp only [List.getElem?_cons_zero, Option.some.injEq] at h
      subst h
      rw [List.getElem?_append_left (by rw [hs]; omega), Nat.zero_mul, Nat.zero_add]
    | succ k =>
      rw [List.getElem?_append_right (by rw [hs]; omega), hs, show (k + 1) * 5 + j - 5 = k * 5 + j from by omega]
      exact ih (by simpa using h) hj
theorem allB_drop {L : List RItem} {k : Nat} {x : RItem} (h : L[k]? = some x) : allB (L.drop k) = x.1.bytes ++ allB (L.drop (k + 1)) := by
  obtain ⟨hk, hx⟩ := List.getElem?_eq_some_iff.1 h
  rw [List.drop_eq_getElem_cons hk, hx]
  rfl
theorem norm_same {r : Rec} (h : r.err = 0) : r.norm.sameB r = true := by
  obtain ⟨kind, del, key, value, n⟩ := r
  cases he : Rec.isEnd ⟨kind, del, key, value, n⟩ with
  | true =>
    have hi := of_decide_eq_true he
    unfold Rec.norm
    rw [if_pos he]
    unfold Rec.sameB
    simp only at hi ⊢
    rw [hi.1]
    simp
  | false =>
    unfold Rec.norm
    rw [he, if_neg (by simp)]
    rw [err_not he] at h
    simp only at h
    have hk : kind = 1 := by
      rcases Classical.em (kind = 1) with e | e
      · exact e
      · rw [if_pos e] at h; cases h
    subst hk
    unfold Rec.sameB
    cases del <;> simp
theorem next_nil : nextB [] = (.zero, 0, 6) := by unfold nextB; rw [if_pos (by decide)]

theorem recsTy : SliceTy Try.prog 51 36 (.agg #[.int .i64 0, .bool false, .slice none 0 0, .slice none 0 0, .int .i64 0]) 5 72 := SliceTy.mk' Try.underlying51 (by kernel_rfl) rfl (by decide)
theorem add_beside (ad : Addr) (k : Nat) {j : Nat} (hj : 0 < j) : ad.add (k + j) = ⟨(ad.add k).block, (ad.add k).off + j, none⟩ := by
  unfold Addr.add
  rw [if_neg (by omega)]
  by_cases h : k = 0
  · subst h
    simp
  · rw [if_neg h]
    simp [Nat.add_assoc]
/-- the cells of one change of a row -/
theorem op_at {w w' : World} {A : Option Addr} {n : Nat} {xs : List Value} {rs : List Rec} (hr : Rd w' A xs) (hl : rs.length = n) (hx : xs.length = n * 3) (hb : ∀ i (h : i < rs.length), rOp w (chunk xs 3 i) rs[i]) {k : Nat} (hk : k < n) :
    ∃ (ad : Addr) (r : Rec) (kv vv : Value), A = some ad ∧ w'.cell? (ad.add (k * 3)) = some (.bool r.del) ∧ w'.cell? ⟨(ad.add (k * 3)).block, (ad.add (k * 3)).off + 1, none⟩ = some kv ∧ w'.cell? ⟨(ad.add (k * 3)).block, (ad.add (k * 3)).off + 2, none⟩ = some vv ∧
      r.kind = 1 ∧ r.n = 0 ∧ Bytes w kv r.key ∧ Bytes w vv r.value := by
  have hc : (chunk xs 3 k).length = 3 := by unfold chunk; rw [List.length_take, List.length_drop]; omega
  obtain ⟨kv, vv, e, h1, h2, h3, h4⟩ := hb k (by omega) hc
  have hg : ∀ j, j < 3 → xs[k * 3 + j]? = (chunk xs 3 k)[j]? := fun j hj => by
    unfold chunk
    rw [List.getElem?_take, if_pos hj, List.getElem?_drop]
  obtain ⟨ad, rfl, c0⟩ := hr (k * 3) _ (by have := hg 0 (by omega); rw [Nat.add_zero] at this; rw [this, e]; rfl)
  obtain ⟨ad', e1, c1⟩ := hr (k * 3 + 1) kv (by rw [hg 1 (by omega), e]; rfl)
  obtain ⟨ad'', e2, c2⟩ := hr (k * 3 + 2) vv (by rw [hg 2 (by omega), e]; rfl)
  injection e1 with e1
  injection e2 with e2
  subst e1 e2
  rw [add_beside _ _ (by omega)] at c1 c2
  exact ⟨_, rs[k], kv, vv, rfl, c0, c1, c2, h1, h2, h3, h4⟩
/-- 'Pack' of a record that has bytes -/
theorem Pack_ok (r : Rec) (kv vv : Value) (w : World) (hk : Bytes w kv r.key) (hv : Bytes w vv r.value) (hn1 : -9223372036854775808 ≤ r.n) (hn2 : r.n ≤ 9223372036854775807) (he : r.err = 0) :
    Calls Try.prog 20 #[.agg #[.int .i64 r.kind, .bool r.del, kv, vv, .int .i64 r.n]] w fun e w' => ∃ v, e = .returned (.tuple #[v, .int .i64 0]) ∧ Below w.heap.size w w' ∧
      w'.ownsRow w.heap.size 5 1 v r.bytes.length (bv r.bytes) := by
  refine (Pack_any r kv vv w hk hv hn1 hn2).mono ?_
  rintro e w' ⟨hb, ⟨h0, _⟩ | ⟨_, v, rfl, ho⟩⟩
  · exact absurd he h0
  · exact ⟨v, rfl, hb, ho⟩
theorem change_ok {del : Bool} {key value : List UInt8} (hk : key.length ≤ 200) (hv : value.length ≤ 200) : (⟨1, del, key, value, 0⟩ : Rec).err = 0 ∧ (⟨1, del, key, value, 0⟩ : Rec).bytes.length ≤ 500 := by
  refine ⟨err_fits isEnd_one rfl (by simp only; omega), ?_⟩
  rw [bytes_length, body_change isEnd_one]
  simp only [List.length_append, fourB_length]
  cases del <;> simp <;> omega
theorem end_ok {z : Nat} (hz : z < 1024) : (⟨2, false, [], [], z⟩ : Rec).err = 0 ∧ (⟨2, false, [], [], z⟩ : Rec).bytes.length ≤ 500 := by
  refine ⟨err_end _ _ _ _ (by omega) (by omega), ?_⟩
  rw [bytes_length, body_end _ _ _ _ (by omega) (by omega)]
  simp [fourB_length]
/-- a load out of the middle of a row, at an operation with a guard that is wanted -/
theorem wpList_load_mid_want {P : Program} {ops : Array Oper} {rest : List Oper} {op : Oper} {a : Act} {w : World} {Q : Exit → Act → World → Prop} (hw : Region.wanted op (yielded ops a.tmps) = true) (ty : TypeId) (x : Operand) (ho : op.op = .load ty x)
    (b o : Nat) (hx : a.eval x = .pointer (some ⟨b, o, none⟩)) (cs : List Value) (d : TypeDesc) (hc : w.rangeAt b o cs)
    (hu : P.underlying ty = some d) (hd : d.isRow = true) (hi : (P.info? ty).map (·.size) = some cs.length)
    (h : wpList P ops Q rest (a.put op.dst (.agg cs.toArray)) w) : wpList P ops Q (op :: rest) a w :=
  wpList_step fun K hK => by
    rw [if_pos hw]
    exact wp_load_mid ty x ho b o hx cs d hc hu hd hi (hK _ _ h)
theorem own_sl {w : World} {base : Nat} {e : TypeId} {size n : Nat} {v : Value} {xs : List Value} (h : w.ownsRow base e size v n xs) : ∃ A c, v = .slice A n c := by
  rcases h.2 with ⟨rfl, rfl⟩ | ⟨g, cap, cur, rfl, _⟩
  · exact ⟨_, _, rfl⟩
  · exact ⟨_, _, rfl⟩
theorem own_at {w : World} {base : Nat} {e : TypeId} {size n c : Nat} {A : Option Addr} {xs : List Value} (h : w.ownsRow base e size (.slice A n c) n xs) (hn : 0 < n) : ∃ g, A = some ⟨g, 0, none⟩ := by
  rcases h.2 with ⟨e1, e2⟩ | ⟨g, cap, cur, e1, _⟩
  · omega
  · injection e1 with e1; exact ⟨g, e1⟩
/-- one record of a row of records -/
theorem row_item {w : World} {base h n c : Nat} {e : TypeId} {L : List RItem} (ho : w.ownsRow base e 5 (.slice (some ⟨h, 0, none⟩) n c) n (allC L)) {k : Nat} {x : RItem} (hx : L[k]? = some x) : w.rangeAt h (k * 5) (itC x) := by
  intro j v hv
  have hj : j < 5 := (List.getElem?_eq_some_iff.1 hv).1
  have := ho.cells (g := h) rfl (k * 5 + j) v ((allC_get L hx hj).trans hv)
  rwa [Addr.add_mid, Nat.zero_add] at this
end Go.Mun
