/- Append: the plain files; a new file in memory; bytes that came in stay. -/
import Derived.Test.YtdkccaiahgfjoaaFsRen
namespace Go.Mun
open Go Go.RowKit Go.Proofs Go.Maps

def app0 (i : Nat) (b : List UInt8) (M : FSs) : FSs := setF M i ⟨(M.fs i).b ++ b, (M.fs i).s⟩
def newF (M : FSs) : FSs := { M with next := M.next + 1, fs := fun j => if j = M.next then ⟨[], 0⟩ else M.fs j }
def app1 (n : Ky) (b : List UInt8) (M : FSs) : FSs := match getP M.now n with | some i => app0 i b M | none => app0 M.next b (waitM (newF M) (.made n M.next))
def appOk (M : FSs) (n : Ky) : Bool := !M.dead && namedB n && ((getP M.now n).isSome || decide (M.now.length < 200))
noncomputable def appM (M : FSs) (n : Ky) (b : List UInt8) : FSs := thenM M (appOk M n) (app1 n b)
theorem cell_of_block {w w' : World} {p : Addr} (h : w'.heap[p.block]? = w.heap[p.block]?) : w'.cell? p = w.cell? p := by
  unfold World.cell?
  rw [h]
theorem add_block (ad : Addr) (j : Nat) : (ad.add j).block = ad.block := by unfold Addr.add; split <;> rfl
/-- bytes that are nobody's of k's stay while k's files are called -/
def Free (o : Own) (k : Nat) (v : Value) : Prop := ∀ ad n c, v = .slice (some ad) n c → 0 < n → ∀ t, o ad.block ≠ some (k, t)
theorem Bytes.turn {k : Nat} {o o' : Own} {w w' : World} {v : Value} {l : List UInt8} (h : Bytes w v l) (hT : Turn k o o' w w') (hf : Free o k v) : Bytes w' v l := by
  obtain ⟨A, n, c, rfl, h1, h2, h3, h4⟩ := h
  refine ⟨A, n, c, rfl, h1, h2, h3, fun j u hj => ?_⟩
  have hn : 0 < n := by have := (List.getElem?_eq_some_iff.1 hj).1; rw [bv_length] at this; omega
  obtain ⟨ad, rfl, hc⟩ := h4 j u hj
  exact ⟨ad, rfl, (cell_of_block (p := ad.add j) (hT.block _ (World.block_lt_of_cell? w _ hc) fun t => by rw [add_block]; exact hf ad n c rfl hn t)).trans hc⟩
theorem idT_congr {φ φ' : Nat → Nat} {P : PL Nat} (h : ∀ p ∈ P, φ' p.2 = φ p.2) : idT φ' P = idT φ P := by
  unfold idT mapP
  refine List.map_congr_left fun p hp => ?_
  show (p.1, (ptr (φ' p.2), p.2)) = (p.1, (ptr (φ p.2), p.2))
  rw [h p hp]
theorem Fine.newF {M : FSs} (h : Fine M) : Fine (newF M) :=
  ⟨h.rnow, h.rsyn, h.repl, h.ok, h.names, h.snames, fun p hp => Nat.lt_succ_of_lt (h.fresh p hp), fun p hp => Nat.lt_succ_of_lt (h.sfresh p hp), fun n i hn => Nat.lt_succ_of_lt (h.made n i hn), fun j => by
    show (if j = M.next then (⟨[], 0⟩ : FileS) else M.fs j).s ≤ (if j = M.next then (⟨[], 0⟩ : FileS) else M.fs j).b.length
    by_cases e : j = M.next
    · rw [if_pos e]; exact Nat.le_refl _
    · rw [if_neg e]; exact h.sized j, h.once, h.op⟩
theorem RelP.newF {k p : Nat} {M : FSs} {φ φ' : Nat → Nat} {o : Own} {K L : Nat} {w w' : World} (h : RelP k p M φ o K L w) (hb : Below w.heap.size w w') (hx : Blk w' w.heap.size 62 #[.slice none 0 0, .int .i64 0])
    (h1 : φ' M.next = w.heap.size) (h2 : ∀ j, j ≠ M.next → φ' j = φ j) : RelP k p (newF M) φ' (give o w.heap.size (k, .file M.next)) K L w' ∧ FileAt k φ' (give o w.heap.size (k, .file M.next)) w' M.next ⟨[], 0⟩ := by
  obtain ⟨bn, bs, vw, vk, hh⟩ := h.head
  have ho := h.own
  have ex : ∀ {b x}, o b = some x → give o w.heap.size (k, .file M.next) b = some x := fun e => by rw [give_ne (by have := ho.lt e; omega)]; exact e
  have st : ∀ {b x}, o b = some x → w'.heap[b]? = w.heap[b]? := fun e => hb.block _ (ho.lt e)
  have hlt := hx.lt
  have i1 : idT φ' M.now = idT φ M.now := idT_congr fun p hp => h2 _ (by have := h.fine.fresh p hp; omega)
  have i2 : idT φ' M.syn = idT φ M.syn := idT_congr fun p hp => h2 _ (by have := h.fine.sfresh p hp; omega)
  have i3 : M.waits.map (chgV φ') = M.waits.map (chgV φ) := List.map_congr_left fun c hc => by
    cases c with
    | made n i => show Value.iface _ _ = Value.iface _ _; rw [h2 i (by have := h.fine.made n i hc; omega)]
    | ren a b i => rfl
    | del a => rfl
  refine ⟨⟨h.fine.newF, (ho.more hb.size).give hlt _, ⟨bn, bs, vw, vk, ⟨hh.blk.same (st hh.op), ex hh.op, ex hh.on, ex hh.os, ?_, ?_, ?_, fun g hg => ex (hh.ow g hg), own_same hh.keep fun g hg => st (hh.ok g hg), fun g hg => ex (hh.ok g hg)⟩⟩, fun i hi => ?_, h.ops, h.cut, h.opb, h.wl⟩, ?_⟩
  · obtain ⟨N, h1, h2⟩ := hh.now
    exact ⟨N, by show MapV w' bn (idT φ' M.now) N; rw [i1]; exact h1.same (st hh.on), h2⟩
  · obtain ⟨N, h1, h2⟩ := hh.syn
    exact ⟨N, by show MapV w' bs (idT φ' M.syn) N; rw [i2]; exact h1.same (st hh.os), h2⟩
  · show w'.ownsRow 0 _ 1 vw M.waits.length (M.waits.map (chgV φ'))
    rw [i3]
    exact own_same hh.waits fun g hg => st (hh.ow g hg)
  · have hi' : Live M i := hi
    have hlt := live_lt h.fine hi'
    have hne : i ≠ M.next := by omega
    show FileAt k φ' _ w' i (if i = M.next then (⟨[], 0⟩ : FileS) else M.fs i) ∧ (if i = M.next then (⟨[], 0⟩ : FileS) else M.fs i).b.length ≤ L
    rw [if_neg hne]
    obtain ⟨⟨v, g1, g2, g3, g4⟩, g5⟩ := h.file i hi'
    exact ⟨⟨v, by rw [h2 i hne]; exact g1.same (st g2), by rw [h2 i hne]; exact ex g2, own_same g3 fun g hg => st (g4 g hg), fun g hg => ex (g4 g hg)⟩, g5⟩
  · exact ⟨.slice none 0 0, by rw [h1]; exact hx, by rw [h1]; exact give_same _ _ _, World.ownsRow_nil _ _ _ _, fun g hg => by cases hg⟩
/-- a file that is there, as it lies -/
theorem RelP.at_file {k p : Nat} {M : FSs} {φ : Nat → Nat} {o : Own} {K L : Nat} {w : World} (h : RelP k p M φ o K L w) {i : Nat} (hl : Live M i) : ∃ A c s0 l0, (M.fs i).s = s0 ∧ (M.fs i).b = l0 ∧ Blk w (φ i) 62 #[.slice A l0.length c, .int .i64 (s0 : Nat)] ∧ o (φ i) = some (k, .file i) ∧ w.ownsRow 0 5 1 (.slice A l0.length c) l0.length (bv l0) ∧ (∀ g, (Value.slice A l0.length c).ownBlock = some g → o g = some (k, .byt i)) ∧ l0.length ≤ L ∧ s0 ≤ l0.length := by
  obtain ⟨⟨v, f1, f2, f3, f4⟩, f5⟩ := h.file i hl
  obtain ⟨A, c, rfl⟩ := row_slC f3
  exact ⟨A, c, _, _, rfl, rfl, f1, f2, f3, f4, f5, h.fine.sized i⟩
theorem appOk_dead {M : FSs} {n : Ky} (h : M.dead = true) : appOk M n = false := by unfold appOk; rw [h]; rfl
theorem appOk_name {M : FSs} {n : Ky} (h : namedB n = false) : appOk M n = false := by unfold appOk; rw [h, Bool.and_false]; rfl
theorem appOk_full {M : FSs} {n : Ky} (h : getP M.now n = none) (h2 : ¬ M.now.length < 200) : appOk M n = false := by unfold appOk; rw [h, decide_eq_false h2]; simp
theorem appOk_old {M : FSs} {n : Ky} {i : Nat} (h0 : M.dead = false) (h1 : namedB n = true) (h : getP M.now n = some i) : appOk M n = true := by unfold appOk; rw [h0, h1, h]; rfl
theorem appOk_new {M : FSs} {n : Ky} (h0 : M.dead = false) (h1 : namedB n = true) (h : getP M.now n = none) (h2 : M.now.length < 200) : appOk M n = true := by unfold appOk; rw [h0, h1, h, decide_eq_true h2]; rfl
end Go.Mun
