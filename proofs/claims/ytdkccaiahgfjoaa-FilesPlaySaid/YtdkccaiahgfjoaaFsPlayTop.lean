/- FsPlain2, Lit, FsAlive, FsPlain3, FsPlans, FsKeep, Strs, Lone, FrDel, FrRen, PlArg, PlSame, PlStep, in one text. -/
import Derived.Test.YtdkccaiahgfjoaaFsIn
import Derived.Test.YtdkccaiahgfjoaaBlk
import Derived.Lib.SlBytesConst
import Derived.Test.YtdkccaiahgfjoaaRead
import Derived.Maps.StringElems
import Derived.Test.YtdkccaiahgfjoaaFrIn
import Derived.Test.YtdkccaiahgfjoaaFrNew
import Derived.Test.YtdkccaiahgfjoaaFrCrash
import Derived.Test.YtdkccaiahgfjoaaLaw
import Derived.StillTailTactics
import Derived.Laws.BitsAllLaws
namespace Go.Mun
open Go Go.RowKit

abbrev cA : Ky := [97]
noncomputable def cutM (a b : List UInt8) (cut : Int) : FSs := planM (appM (dirM (syncM (appM newM cA a) cA)) cA b) 0 cut []
theorem crash_fs {M : FSs} {i : Nat} (h : hasId (left M) i) : (crashM M).fs i = cutF M.cut (M.fs i) := if_pos h
theorem cutM_sync (a b : List UInt8) (cut : Int) : syncM (cutM a b cut) cA = crashM (cutM a b cut) := by
  unfold syncM
  rw [thenM_off (M := cutM a b cut) (ok := isB (cutM a b cut) cA) rfl rfl]
  exact if_pos rfl
theorem cutM_fs (a b : List UInt8) (cut : Int) : (cutM a b cut).fs 0 = ⟨([] ++ a) ++ b, ([] ++ a).length⟩ := rfl
theorem cutM_read (a b : List UInt8) (cut : Int) (hc : 0 ≤ cut) : readM (startM (crashM (cutM a b cut))) cA = a ++ b.take (cut.toNat % (b.length + 1)) := by
  have h1 : readM (startM (crashM (cutM a b cut))) cA = ((crashM (cutM a b cut)).fs 0).b := rfl
  rw [h1, crash_fs ⟨(cA, 0), List.mem_singleton.2 rfl, rfl⟩, cutM_fs]
  show (([] ++ a) ++ b).take (cutAt cut ⟨([] ++ a) ++ b, ([] ++ a).length⟩) = _
  unfold cutAt
  rw [if_pos hc]
  simp only [List.nil_append, List.length_append]
  rw [show a.length + b.length - a.length + 1 = b.length + 1 by omega, List.take_append]
  simp only [Nat.add_sub_cancel_left]
  rw [List.take_of_length_le (by omega)]
end Go.Mun

namespace Go.Mun
open Go Go.RowKit

theorem run_lit {P : Program} {w : World} {t e : TypeId} (ht : P.underlying t = some (.slice e)) (he : P.underlying e = some (.int .u8)) {g n c : Nat} {cs : Array Value} (hb : Blk w g e cs) :
    (convert t t (.slice (some ⟨g, 0, none⟩) n c)).run P w = .ok (.slice (some ⟨g, 0, none⟩) n c) (w.freeze ⟨g, cs.size, none⟩ 1) := by
  have hsh : w.shape? g = some (e, cs.size) := by unfold World.shape?; rw [show w.heap[g]? = _ from hb]
  simp [convert, run_underlying ht, run_underlying he, markStringish, hsh, Result.andThen]
theorem lit_block {w : World} {g : Nat} {e : TypeId} {cs : Array Value} (hb : Blk w g e cs) : (w.freeze ⟨g, cs.size, none⟩ 1).heap[g]? = some (.cells cs e (cs.size, cs.size + 1)) := by
  have h : w.heap[g]? = some (.cells cs e (0, 0)) := hb
  simp [World.freeze, Array.getElem?_modify, h]
theorem lit_grown (w : World) (g k : Nat) : w.grownBy (w.freeze ⟨g, k, none⟩ 1) (some g) := by
  refine ⟨rfl, rfl, rfl, by simp [World.freeze], fun b _ hne => ?_⟩
  have : g ≠ b := fun e => hne (by rw [e])
  simp [World.freeze, Array.getElem?_modify, this]
theorem lit_size (w : World) (g k : Nat) : (w.freeze ⟨g, k, none⟩ 1).heap.size = w.heap.size := by simp [World.freeze]
theorem wpList_lit {P : Program} {ops : Array Oper} {rest : List Oper} {o : Oper} {a : Act} {w : World} {Q : Exit → Act → World → Prop} (hgd : o.guard = none) {t e : TypeId} (x : Operand) (ho : o.op = .convert t t x) (ht : P.underlying t = some (.slice e)) (he : P.underlying e = some (.int .u8))
    {g n c : Nat} {cs : Array Value} {l : List UInt8} (hx : a.eval x = .slice (some ⟨g, 0, none⟩) n c) (hb : Blk w g e cs) (hcs : cs.toList = bv l) (hn : l.length = n) (hnc : n ≤ c) (hcm : c ≤ maxLen)
    (h : ∀ w', w.grownBy w' (some g) → w'.heap.size = w.heap.size → Bytes w' (.slice (some ⟨g, 0, none⟩) n c) l → wpList P ops Q rest (a.put o.dst (.slice (some ⟨g, 0, none⟩) n c)) w') : wpList P ops Q (o :: rest) a w := by
  refine wpList_plain hgd fun _ hK => ?_
  have hr := run_lit ht he (n := n) (c := c) hb
  unfold Oper.wp execOp
  simp only [ho, hx, Sem.run_bind, hr, Result.andThen_ok, Sem.run_pure]
  refine hK _ _ (h _ (lit_grown _ _ _) (lit_size _ _ _) ⟨_, _, _, rfl, hn, hnc, hcm, fun j u hj => ⟨_, rfl, ?_⟩⟩)
  have hj' : cs[j]? = some u := by rw [← Array.getElem?_toList, hcs]; exact hj
  have hb2 := lit_block hb
  have e : (⟨g, 0, none⟩ : Addr).add j = ⟨g, j, none⟩ := by unfold Addr.add; split <;> simp_all
  rw [e]
  simp [World.cell?, hb2, hj']
end Go.Mun

namespace Go.Mun
open Go Go.RowKit Go.Proofs Go.Maps

theorem Bools.nil (w : World) : Bools w (.slice none 0 0) [] := ⟨none, 0, 0, rfl, rfl, Nat.le_refl _, by decide, Rd.nil _ _⟩
theorem u8Ty : Try.prog.underlying 5 = some (.int .u8) := Try.underlying5
theorem u8sTy : Try.prog.underlying 26 = some (.slice 5) := Try.underlying26
/-- a literal's block is nobody's -/
theorem Free.lit {k : Nat} {o : Own} {w : World} {n c : Nat} (ho : OwnIn o w) : Free o k (.slice (some ⟨w.heap.size, 0, none⟩) n c) :=
  Free.new ho fun ad e => by injection e with e; subst e; exact Nat.le_refl _
set_option maxRecDepth 100000 in
set_option maxHeartbeats 2000000 in
theorem alive_any (w : World) : Calls Try.prog 9 #[] w fun e w' => e = .returned (.bool true) ∧ Below w.heap.size w w' := by
  have hbT := bytesTyC
  have N0 := Lib.hid (New_in (w0 := w) (w := w) (o := fun _ => none) 0 (fun _ _ => rfl) (Below.refl _ _) (fun _ _ => rfl))
  go_enter Try.func9, Try.ntmps9
  go_wp2_with (first
    | (go_at_call 10; (with_reducible refine N0.out.mono ?_); rintro e w1 ⟨p, o1, rfl, h1, T1⟩)
    | ((with_reducible refine gd_rowC ?_); refine wpList_row_val (v := .int .u8 120) rfl (.const (.int .u8 120)) rfl hbT (by decide) rfl rfl ?_; intro w2 hx2 hb2 hl2)
    | ((with_reducible refine gd_convert ?_); refine wpList_lit rfl (.tmp 10) rfl u8sTy u8Ty rfl hx2 (l := [120]) rfl rfl (Nat.le_refl _) (by decide) ?_; intro wl hgl hsl B2; have hbl := below_blk hb2 hb2.size hgl (Nat.le_refl _); have h2 := h1.ext hbl; have F2 := Lib.hid (Free.lit (k := 0) (n := 1) (c := 1) h1.own))
    | (go_at_call 11; (with_reducible refine (App_in h2 [97] (by decide) _ [120] B2 F2.out (by decide) (by decide) (by decide)).mono ?_); rintro e w3 ⟨rfl, o3, h3, T3⟩)
    | (go_at_call 13; (with_reducible refine (Sync_in h3 [97] (by decide) (by decide) (by decide)).mono ?_); rintro e w4 ⟨rfl, o4, h4, T4⟩)
    | (go_at_call 19; (with_reducible refine (Plan_in h4 0 0 (.slice none 0 0) [] (by decide) (by decide) (Bools.nil _) Free.nil (by decide)).mono ?_); rintro e w5 ⟨rfl, o5, h5, T5⟩)
    | (go_at_call 15; (with_reducible refine (Dir_in h5 (by decide) (by decide)).mono ?_); rintro e w6 ⟨rfl, o6, h6, T6⟩)
    | (go_at_call 26; (with_reducible refine (Dead_in h6).mono ?_); rintro e w7 ⟨rfl, rfl⟩)
    | (go_at_call 20; (with_reducible refine (Start_in h6).mono ?_); rintro e w8 ⟨rfl, h8, T8⟩)
    | (go_at_call 22; (with_reducible refine (Names_in h8 (by decide)).mono ?_); rintro e w9 ⟨v, rfl, ho9, hb9, h9⟩; obtain ⟨A9, c9, rfl⟩ := row_slC ho9)
    | fail)
  go_ret
  exact ⟨rfl, h9.below⟩
end Go.Mun

namespace Go.Mun
open Go Go.RowKit Go.Maps

theorem cut0 (l : List UInt8) : cutF 0 ⟨l, l.length⟩ = ⟨l, l.length⟩ := by
  have e : cutAt 0 ⟨l, l.length⟩ = l.length := by unfold cutAt; simp
  unfold cutF
  rw [e]
  simp
theorem hasId_get {P : PL Nat} {n : Ky} {i : Nat} (h : getP P n = some i) : hasId P i := ⟨(n, i), getP_mem h, rfl⟩
theorem crash_isB {M : FSs} {n : Ky} {i : Nat} (h : getP (left M) n = some i) : isB (startM (crashM M)) n = true := by
  show (!false && (getP (left M) n).isSome) = true
  rw [h]
  rfl
theorem crash_isB_no {M : FSs} {n : Ky} (h : getP (left M) n = none) : isB (startM (crashM M)) n = false := by
  show (!false && (getP (left M) n).isSome) = false
  rw [h]
  rfl
theorem crash_read {M : FSs} {n : Ky} {i : Nat} {l : List UInt8} (h : getP (left M) n = some i) (hf : M.fs i = ⟨l, l.length⟩) (hc : M.cut = 0) : readM (startM (crashM M)) n = l := by
  unfold readM
  rw [if_pos (crash_isB h)]
  show (match getP (left M) n with | some i => ((crashM M).fs i).b | none => []) = l
  rw [h]
  show ((crashM M).fs i).b = l
  rw [crash_fs (hasId_get h), hf, hc, cut0]
theorem crash_read_no {M : FSs} {n : Ky} (h : getP (left M) n = none) : readM (startM (crashM M)) n = [] := by
  unfold readM
  rw [if_neg (by rw [crash_isB_no h]; simp)]
theorem app_off {M : FSs} {n : Ky} {b : List UInt8} (h : appOk M n = true) (ho : M.op = 0) : appM M n b = crashM M := by
  unfold appM
  rw [thenM_off h (failsB_yes ho)]
  exact if_pos ho
theorem dir_off {M : FSs} (h : M.dead = false) (ho : M.op = 0) : dirM M = crashM M := by
  unfold dirM
  rw [thenM_off (by rw [h]; rfl) (failsB_yes ho)]
  exact if_pos ho
theorem read_cast {w : World} {base : Nat} {e : TypeId} {v : Value} {M : FSs} {n : Ky} {l : List UInt8} (h : w.ownsRow base e 1 v (readM M n).length (bv (readM M n))) (hl : readM M n = l) : w.ownsRow base e 1 v l.length (bv l) := by rw [hl] at h; exact h
/-- bytes that lie where k's files do not -/
structure Held (k : Nat) (o : Own) (w : World) (v : Value) (l : List UInt8) : Prop where
  bytes : Bytes w v l
  free : Free o k v
theorem bytes_lt {w : World} {ad : Addr} {n c : Nat} {l : List UInt8} (h : Bytes w (.slice (some ad) n c) l) (hn : 0 < n) : ad.block < w.heap.size := by
  obtain ⟨A, n', c', e', h1, _, _, h4⟩ := h
  injection e' with e1 e2 e3
  subst e1 e2
  obtain ⟨u, hu⟩ : ∃ u, (bv l)[0]? = some u := ⟨_, List.getElem?_eq_getElem (by rw [bv_length]; omega)⟩
  obtain ⟨ad', e5, hc⟩ := h4 0 u hu
  injection e5 with e5
  subst e5
  have := World.block_lt_of_cell? w _ hc
  rwa [add_block] at this
theorem Held.turn {k : Nat} {o o' : Own} {w w' : World} {v : Value} {l : List UInt8} (h : Held k o w v l) (hT : Turn k o o' w w') : Held k o' w' v l :=
  ⟨h.bytes.turn hT h.free, fun ad n c e hn t => by
    have hb := h.bytes
    rw [e] at hb
    rw [hT.old _ (bytes_lt hb hn)]
    exact h.free ad n c e hn t⟩
theorem Held.ext {k : Nat} {o : Own} {w w' : World} {v : Value} {l : List UInt8} (h : Held k o w v l) (hb : Below w.heap.size w w') : Held k o w' v l := ⟨h.bytes.ext hb, h.free⟩
theorem Held.own {k : Nat} {o : Own} {w w' : World} {e : TypeId} {v : Value} {n : Nat} {l : List UInt8} (ho : OwnIn o w) (h : w'.ownsRow w.heap.size e 1 v n (bv l)) : Held k o w' v l :=
  ⟨Bytes.own h, fun ad n' c ev _ t => by
    rcases h.2 with ⟨e1, _⟩ | ⟨g, cap, cur, e1, hb, _⟩
    · rw [ev] at e1; cases e1
    · rw [ev] at e1
      injection e1 with e1
      injection e1 with e1
      rw [e1, ho _ hb]
      simp⟩
abbrev cNew : Ky := [110, 101, 119]
abbrev cOld : Ky := [111, 108, 100]
abbrev cZ : Ky := [122]
end Go.Mun

namespace Go.Mun
open Go Go.RowKit

abbrev cNone : Ky := [110, 111, 110, 101]
abbrev cB : Ky := [98]
/-- behind i operations, of which op go well -/
structure PlOk (op i : Nat) (M : FSs) : Prop where
  live : i ≤ op → M.dead = false ∧ M.op = (op : Int) - i ∧ M.ops = 1 + (i : Int) ∧ (getP M.now cA).isSome = true ∧ getP M.now cNone = none
  gone : op < i → M.dead = true ∧ M.ops = 1 + (op : Int)
theorem pl0 (op : Nat) : PlOk op 0 (planM (appM newM cA [120]) (op : Int) 0 []) := by
  refine ⟨fun _ => ⟨rfl, ?_, rfl, rfl, rfl⟩, fun h => absurd h (Nat.not_lt_zero _)⟩
  show max (-1) (op : Int) = (op : Int) - ((0 : Nat) : Int)
  omega
section
variable {op i : Nat} {M : FSs}
theorem PlOk.noneB (h : PlOk op i M) : isB M cNone = false := by
  unfold isB
  by_cases hi : i ≤ op
  · rw [(h.live hi).2.2.2.2]; simp
  · rw [(h.gone (by omega)).1]; rfl
theorem PlOk.empty (M : FSs) : appOk M [] = false := appOk_name (by decide)
theorem PlOk.isA (h : PlOk op i M) : isB M cA = !M.dead := by
  unfold isB
  by_cases hi : i ≤ op
  · rw [(h.live hi).2.2.2.1]; simp
  · rw [(h.gone (by omega)).1]; rfl
theorem PlOk.app (h : PlOk op i M) : appOk M cA = !M.dead := by
  by_cases hi : i ≤ op
  · obtain ⟨j, hj⟩ := Option.isSome_iff_exists.1 (h.live hi).2.2.2.1
    rw [appOk_old (h.live hi).1 (by decide) hj, (h.live hi).1]; rfl
  · rw [appOk_dead (h.gone (by omega)).1, (h.gone (by omega)).1]; rfl
theorem PlOk.ren (h : PlOk op i M) : (isB M cA && namedB cA) = !M.dead := by rw [h.isA, show namedB cA = true from by decide, Bool.and_true]
theorem PlOk.goes (h : PlOk op i M) {X : Bool} (hX : X = !M.dead) : goesB M X = decide (i < op) := by
  unfold goesB
  rw [hX]
  by_cases hi : i ≤ op
  · obtain ⟨h1, h2, _⟩ := h.live hi
    rw [h1]
    by_cases h3 : i = op
    · rw [failsB_yes (by rw [h2]; omega), decide_eq_false (by omega)]; rfl
    · rw [failsB_no (by rw [h2]; omega), decide_eq_true (by omega)]; rfl
  · rw [(h.gone (by omega)).1, decide_eq_false (by omega)]; rfl
theorem PlOk.next (h : PlOk op i M) {X : Bool} (hX : X = !M.dead) {g : FSs → FSs} (hg : ∀ M1 : FSs, (getP M1.now cA).isSome = true → getP M1.now cNone = none → (g M1).dead = M1.dead ∧ (g M1).op = M1.op ∧ (g M1).ops = M1.ops ∧ (g M1).now = M1.now) : PlOk op (i + 1) (thenM M X g) := by
  by_cases hi : i ≤ op
  · obtain ⟨h1, h2, h3, h4, h5⟩ := h.live hi
    by_cases h6 : i = op
    · rw [thenM_off (by rw [hX, h1]; rfl) (failsB_yes (by rw [h2]; omega)), show failsM M = crashM M from if_pos (by rw [h2]; omega)]
      exact ⟨fun h => absurd h (by omega), fun _ => ⟨rfl, by show M.ops = _; rw [h3, h6]⟩⟩
    · have hf : failsB M = false := failsB_no (by rw [h2]; omega)
      rw [thenM_go (by rw [hX, h1]; rfl) hf]
      obtain ⟨g1, g2, g3, g4⟩ := hg (failsM M) (by rw [goes_now hf]; exact h4) (by rw [goes_now hf]; exact h5)
      refine ⟨fun h7 => ⟨?_, ?_, ?_, ?_, ?_⟩, fun h => absurd h (by omega)⟩
      · rw [g1, failsM_no (of_decide_eq_false hf)]; exact h1
      · rw [g2, failsM_no (of_decide_eq_false hf)]
        show max (-1) (M.op - 1) = _
        rw [h2]; omega
      · rw [g3, failsM_no (of_decide_eq_false hf)]
        show M.ops + 1 = _
        rw [h3]; omega
      · rw [g4, goes_now hf]; exact h4
      · rw [g4, goes_now hf]; exact h5
  · rw [thenM_no (by rw [hX, (h.gone (by omega)).1]; rfl)]
    exact ⟨fun h => absurd h (by omega), fun _ => h.gone (by omega)⟩
theorem PlOk.appN (h : PlOk op i M) (b : List UInt8) : PlOk op (i + 1) (appM M cA b) := h.next h.app fun M1 h1 _ => by
  obtain ⟨j, hj⟩ := Option.isSome_iff_exists.1 h1
  unfold app1
  rw [hj]
  exact ⟨rfl, rfl, rfl, rfl⟩
theorem PlOk.syncN (h : PlOk op i M) : PlOk op (i + 1) (syncM M cA) := h.next h.isA fun M1 h1 _ => by
  obtain ⟨j, hj⟩ := Option.isSome_iff_exists.1 h1
  unfold sync1
  rw [hj]
  exact ⟨rfl, rfl, rfl, rfl⟩
theorem PlOk.dirN (h : PlOk op i M) : PlOk op (i + 1) (dirM M) := h.next rfl fun _ _ _ => ⟨rfl, rfl, rfl, rfl⟩
theorem PlOk.renN (h : PlOk op i M) : PlOk op (i + 1) (renM M cA cA) := h.next h.ren fun M1 _ _ => by
  unfold ren1
  rw [if_pos rfl]
  exact ⟨rfl, rfl, rfl, rfl⟩
theorem PlOk.sync0 (h : PlOk op i M) : syncM M cNone = M := thenM_no h.noneB
theorem PlOk.del0 (h : PlOk op i M) : delM M cNone = M := thenM_no h.noneB
theorem PlOk.ren0 (h : PlOk op i M) : renM M cNone cB = M := thenM_no (by rw [h.noneB]; rfl)
theorem PlOk.app0 (_h : PlOk op i M) : appM M [] [] = M := thenM_no (PlOk.empty M)
theorem goes_no {M : FSs} {X : Bool} (h : X = false) : goesB M X = false := by unfold goesB; rw [h]; rfl
end
end Go.Mun

namespace Go.Mun
open Go Go.RowKit

theorem fails_live {M : FSs} (h : M.op = -1) : failsB M = false := failsB_no (by rw [h]; decide)
theorem goes_live {M : FSs} (h : M.op = -1) : failsM M = { M with op := -1, ops := M.ops + 1 } := by
  rw [failsM_no (by rw [h]; decide), h]
  rfl
/-- there is power, and no loss of it is planned -/
structure Alive (M : FSs) : Prop where
  dead : M.dead = false
  op : M.op = -1
theorem Alive.app {M : FSs} (h : Alive M) (n : Ky) (l : List UInt8) : Alive (appM M n l) := by
  unfold appM
  cases ho : appOk M n
  · rw [thenM_no rfl]; exact h
  · rw [thenM_go rfl (fails_live h.op), goes_live h.op]
    unfold app1
    cases hg : getP M.now n with
    | some i => exact ⟨h.dead, rfl⟩
    | none => exact ⟨h.dead, rfl⟩
theorem Alive.sync {M : FSs} (h : Alive M) (n : Ky) : Alive (syncM M n) := by
  unfold syncM
  cases ho : isB M n
  · rw [thenM_no rfl]; exact h
  · rw [thenM_go rfl (fails_live h.op), goes_live h.op]
    unfold sync1
    cases hg : getP M.now n with
    | some i => exact ⟨h.dead, rfl⟩
    | none => exact ⟨h.dead, rfl⟩
/-- all bytes of all files are synced -/
def Synced (M : FSs) : Prop := ∀ p ∈ M.now, (M.fs p.2).s = (M.fs p.2).b.length
/-- what Append does to names and files, while there is power -/
theorem app_old {M : FSs} (h : Alive M) {n : Ky} {i : Nat} {l : List UInt8} (ho : appOk M n = true) (hg : getP M.now n = some i) : (appM M n l).now = M.now ∧ (appM M n l).syn = M.syn ∧ (appM M n l).waits = M.waits ∧ (appM M n l).next = M.next ∧ (appM M n l).fs = fun j => if j = i then ⟨(M.fs i).b ++ l, (M.fs i).s⟩ else M.fs j := by
  unfold appM
  rw [thenM_go ho (fails_live h.op), goes_live h.op]
  unfold app1
  have : getP ({ M with op := -1, ops := M.ops + 1 } : FSs).now n = some i := hg
  rw [this]
  exact ⟨rfl, rfl, rfl, rfl, rfl⟩
theorem app_new {M : FSs} (h : Alive M) {n : Ky} {l : List UInt8} (ho : appOk M n = true) (hg : getP M.now n = none) : (appM M n l).now = setP M.now n (some M.next) ∧ (appM M n l).syn = M.syn ∧ (appM M n l).waits = M.waits ++ [.made n M.next] ∧ (appM M n l).next = M.next + 1 ∧ ∀ j, j ≠ M.next → (appM M n l).fs j = M.fs j := by
  unfold appM
  rw [thenM_go ho (fails_live h.op), goes_live h.op]
  unfold app1
  have : getP ({ M with op := -1, ops := M.ops + 1 } : FSs).now n = none := hg
  rw [this]
  refine ⟨rfl, rfl, rfl, rfl, fun j hj => ?_⟩
  show (if j = M.next then _ else (if j = M.next then _ else M.fs j) : FileS) = M.fs j
  rw [if_neg hj, if_neg hj]
theorem sync_old {M : FSs} (h : Alive M) {n : Ky} {i : Nat} (ho : isB M n = true) (hg : getP M.now n = some i) : (syncM M n).now = M.now ∧ (syncM M n).fs = fun j => if j = i then ⟨(M.fs i).b, (M.fs i).b.length⟩ else M.fs j := by
  unfold syncM
  rw [thenM_go ho (fails_live h.op), goes_live h.op]
  unfold sync1
  have : getP ({ M with op := -1, ops := M.ops + 1 } : FSs).now n = some i := hg
  rw [this]
  exact ⟨rfl, rfl⟩
theorem isB_some {M : FSs} (h : Alive M) {n : Ky} {i : Nat} (hg : getP M.now n = some i) : isB M n = true := by unfold isB; rw [h.dead, hg]; rfl
theorem isB_none {M : FSs} {n : Ky} (hg : getP M.now n = none) : isB M n = false := by unfold isB; rw [hg]; simp
/-- Append and Sync of one file leave all synced -/
theorem Synced.step {M : FSs} (h : Synced M) (ha : Alive M) (n : Ky) (l : List UInt8) : Synced (syncM (appM M n l) n) ∧ (syncM (appM M n l) n).now.length ≤ M.now.length + 1 := by
  have ha1 := ha.app n l
  cases ho : appOk M n
  · have e1 : appM M n l = M := thenM_no ho
    rw [e1]
    cases hg : getP M.now n with
    | none => rw [show syncM M n = M from thenM_no (isB_none hg)]; exact ⟨h, Nat.le_succ _⟩
    | some i =>
      obtain ⟨e2, e3⟩ := sync_old ha (isB_some ha hg) hg
      refine ⟨fun p hp => ?_, by rw [e2]; exact Nat.le_succ _⟩
      rw [e2] at hp
      rw [e3]
      show (if p.2 = i then _ else M.fs p.2 : FileS).s = (if p.2 = i then _ else M.fs p.2 : FileS).b.length
      by_cases e : p.2 = i
      · rw [if_pos e]
      · rw [if_neg e]; exact h p hp
  · cases hg : getP M.now n with
    | some i =>
      obtain ⟨e1, _, _, _, e4⟩ := app_old (l := l) ha ho hg
      have hg1 : getP (appM M n l).now n = some i := by rw [e1]; exact hg
      obtain ⟨e2, e3⟩ := sync_old ha1 (isB_some ha1 hg1) hg1
      refine ⟨fun p hp => ?_, by rw [e2, e1]; exact Nat.le_succ _⟩
      rw [e2, e1] at hp
      rw [e3]
      show (if p.2 = i then _ else (appM M n l).fs p.2 : FileS).s = (if p.2 = i then _ else (appM M n l).fs p.2 : FileS).b.length
      by_cases e : p.2 = i
      · rw [if_pos e]
      · rw [if_neg e, e4]
        show (if p.2 = i then _ else M.fs p.2 : FileS).s = (if p.2 = i then _ else M.fs p.2 : FileS).b.length
        rw [if_neg e]
        exact h p hp
    | none =>
      obtain ⟨e1, _, _, _, e4⟩ := app_new (l := l) ha ho hg
      have hg1 : getP (appM M n l).now n = some M.next := by rw [e1, getP_set, if_pos rfl]
      obtain ⟨e2, e3⟩ := sync_old ha1 (isB_some ha1 hg1) hg1
      refine ⟨fun p hp => ?_, by rw [e2, e1]; exact length_set _ _ _⟩
      rw [e2, e1] at hp
      rw [e3]
      show (if p.2 = M.next then _ else (appM M n l).fs p.2 : FileS).s = (if p.2 = M.next then _ else (appM M n l).fs p.2 : FileS).b.length
      by_cases e : p.2 = M.next
      · rw [if_pos e]
      · rw [if_neg e, e4 _ e]
        rcases mem_set hp with ⟨hp, _⟩ | ⟨_, hp⟩
        · exact h p hp
        · injection hp with hp
          exact absurd hp.symm e
/-- behind the first SyncDir: bytes may be put behind what is there -/
structure Kept2 (M F : FSs) : Prop where
  alive : Alive F
  now : F.now = M.now
  syn : F.syn = M.now
  waits : F.waits = []
  next : F.next = M.next
  fs : ∀ p ∈ M.now, (F.fs p.2).s = (M.fs p.2).b.length ∧ (M.fs p.2).b <+: (F.fs p.2).b
theorem kept2_start {M : FSs} (h : Synced M) (ha : Alive M) : Kept2 (dirM M) (dirM M) ∧ (dirM M).now = M.now := by
  have e : dirM M = dir1 { M with op := -1, ops := M.ops + 1 } := by
    unfold dirM
    rw [thenM_go (by rw [ha.dead]; rfl) (fails_live ha.op), goes_live ha.op]
  rw [e]
  exact ⟨⟨⟨ha.dead, rfl⟩, rfl, rfl, rfl, rfl, fun p hp => ⟨h p hp, List.prefix_rfl⟩⟩, rfl⟩
theorem Kept2.app {M F : FSs} (h : Kept2 M F) {n : Ky} {i : Nat} (hg : getP M.now n = some i) (hn : NameOk n) (l : List UInt8) : Kept2 M (appM F n l) := by
  have hg' : getP F.now n = some i := by rw [h.now]; exact hg
  obtain ⟨e1, e2, e3, e4, e5⟩ := app_old (l := l) h.alive (appOk_old h.alive.dead (decide_eq_true (p := n ≠ [] ∧ n.length ≤ 100) hn) hg') hg'
  refine ⟨h.alive.app n l, e1.trans h.now, e2.trans h.syn, e3.trans h.waits, e4.trans h.next, fun p hp => ?_⟩
  obtain ⟨f1, f2⟩ := h.fs p hp
  rw [e5]
  show (if p.2 = i then _ else F.fs p.2 : FileS).s = _ ∧ _ <+: (if p.2 = i then _ else F.fs p.2 : FileS).b
  by_cases e : p.2 = i
  · rw [if_pos e, ← e]
    exact ⟨f1, f2.trans (List.prefix_append _ _)⟩
  · rw [if_neg e]
    exact ⟨f1, f2⟩
/-- behind Append of one more file -/
structure Kept3 (M F : FSs) : Prop where
  alive : Alive F
  syn : F.syn = M.now
  waits : F.waits = [] ∨ (getP M.now cNew = none ∧ ∃ j, F.waits = [.made cNew j])
  fs : ∀ p ∈ M.now, (F.fs p.2).s = (M.fs p.2).b.length ∧ (M.fs p.2).b <+: (F.fs p.2).b
theorem Kept2.more {M F : FSs} (h : Kept2 M F) (hf : Fine F) (hl : M.now.length < 200) (l : List UInt8) : Kept3 M (appM F cNew l) := by
  cases hg : getP M.now cNew with
  | some i =>
    have := h.app hg ⟨by decide, by decide⟩ l
    exact ⟨this.alive, this.syn, .inl this.waits, this.fs⟩
  | none =>
    have hg' : getP F.now cNew = none := by rw [h.now]; exact hg
    obtain ⟨e1, e2, e3, e4, e5⟩ := app_new (l := l) h.alive (appOk_new h.alive.dead (by decide) hg' (by rw [h.now]; exact hl)) hg'
    refine ⟨h.alive.app _ _, e2.trans h.syn, .inr ⟨hg, F.next, by rw [e3, h.waits]; rfl⟩, fun p hp => ?_⟩
    rw [e5 p.2 (by have := hf.fresh p (by rw [h.now]; exact hp); omega)]
    exact h.fs p hp
/-- behind the loss of power: what was synced is there, and one name more at the most -/
theorem Kept3.crash {M F : FSs} (h : Kept3 M F) (hf : Fine F) (hM : Rises M.now) (cut : Int) (keep : List Bool) :
    (∀ p ∈ M.now, isB (startM (crashM (planM F 0 cut keep))) p.1 = true ∧ (M.fs p.2).b <+: readM (startM (crashM (planM F 0 cut keep))) p.1) ∧
    ((namesM (startM (crashM (planM F 0 cut keep)))).length = M.now.length ∨ (namesM (startM (crashM (planM F 0 cut keep)))).length = M.now.length + 1) := by
  have hleft : left (planM F 0 cut keep) = M.now ∨ (getP M.now cNew = none ∧ ∃ j, left (planM F 0 cut keep) = setP M.now cNew (some j)) := by
    have e : left (planM F 0 cut keep) = doL F.syn (F.waits.take (kept (planM F 0 cut keep))) := rfl
    rw [e, h.syn]
    rcases h.waits with hw | ⟨hn, j, hw⟩
    · rw [hw, List.take_nil]; exact .inl rfl
    · rw [hw]
      cases kept (planM F 0 cut keep) with
      | zero => exact .inl rfl
      | succ m => exact .inr ⟨hn, j, by rw [List.take_of_length_le (by show 1 ≤ m + 1; omega)]; rfl⟩
  refine ⟨fun p hp => ?_, ?_⟩
  · have hg : getP (left (planM F 0 cut keep)) p.1 = some p.2 := by
      have h0 := getP_at hM hp
      rcases hleft with e | ⟨hn, j, e⟩
      · rw [e]; exact h0
      · rw [e, getP_set, if_neg]
        · exact h0
        · intro e2; rw [e2, hn] at h0; cases h0
    refine ⟨crash_isB hg, ?_⟩
    have e1 : readM (startM (crashM (planM F 0 cut keep))) p.1 = (cutF cut (F.fs p.2)).b := by
      unfold readM
      rw [if_pos (crash_isB hg)]
      show (match getP (left (planM F 0 cut keep)) p.1 with | some i => ((crashM (planM F 0 cut keep)).fs i).b | none => []) = _
      rw [hg]
      show ((crashM (planM F 0 cut keep)).fs p.2).b = _
      rw [crash_fs (hasId_get hg)]
      rfl
    rw [e1]
    obtain ⟨f1, f2⟩ := h.fs p hp
    show (M.fs p.2).b <+: (F.fs p.2).b.take (cutAt cut (F.fs p.2))
    have hc := (cutAt_le (cut := cut) (hf.sized p.2)).1
    exact List.prefix_take_iff.2 ⟨f2, by omega⟩
  · show ((left (planM F 0 cut keep)).map (·.1)).length = _ ∨ ((left (planM F 0 cut keep)).map (·.1)).length = _
    rw [List.length_map]
    rcases hleft with e | ⟨hn, j, e⟩
    · exact .inl (by rw [e])
    · refine .inr ?_
      rw [e]
      show (insP (cNew, j) (dropP M.now cNew)).length = _
      rw [length_insP]
      have hd : dropP M.now cNew = M.now := by
        unfold dropP
        refine List.filter_eq_self.2 fun p hp => decide_eq_true fun e2 => ?_
        have := getP_at hM hp
        rw [e2, hn] at this
        cases this
      rw [hd]
end Go.Mun

namespace Go.Mun
open Go Go.RowKit

def rStr : Reader (List UInt8) := fun _ cs l => cs = [.string ⟨l.toArray⟩] ∧ l.length ≤ maxLen
theorem opens_str {H : Type} (enc : TypeId × Value → H) {P : Program} (base : Nat) (spare : Nat → Bool) (held : Bool) {t : TypeId} (ht : P.underlying t = some .string) : Opens enc P base spare held t rStr := fun w fuel cs x h => by
  obtain ⟨s, hc, hz, hw⟩ := DataW.trod_string ht h
  refine ⟨s.data.toList, ?_, ?_⟩
  · rw [hc]
  · have : s.data.toList.length = s.size := by cases s; simp [ByteArray.size]
    rw [this]
    exact hw
def Strs (w : World) (v : Value) (l : List (List UInt8)) : Prop := ∃ A n c, v = .slice A n c ∧ l.length = n ∧ n ≤ c ∧ c ≤ maxLen ∧ Rd w A (l.map fun x => .string ⟨x.toArray⟩)
theorem Strs.ext {w w' : World} {v : Value} {l : List (List UInt8)} (h : Strs w v l) (hb : Below w.heap.size w w') : Strs w' v l := by
  obtain ⟨A, n, c, e, h1, h2, h3, h4⟩ := h
  exact ⟨A, n, c, e, h1, h2, h3, h4.ext hb⟩
theorem Strs.of_slice {w : World} {v : Value} {l : List (List UInt8)} (h : SliceOf 1 rStr w v l) : Strs w v l := by
  obtain ⟨A, n, c, xs, rfl, g1, g2, g3, g4, g5, g6⟩ := h
  refine ⟨A, n, c, rfl, g1, g3, g4, ?_⟩
  have e : (l.map fun x => Value.string ⟨x.toArray⟩) = xs := by
    apply List.ext_getElem
    · rw [List.length_map]; omega
    · intro i h1 h2
      rw [List.length_map] at h1
      have := (g6 i h1).1
      have e2 : (chunk xs 1 i)[0]? = some (.string ⟨(l[i]).toArray⟩) := by rw [this]; rfl
      unfold chunk at e2
      rw [List.getElem?_take, if_pos (by omega), List.getElem?_drop, Nat.mul_one, Nat.add_zero, List.getElem?_eq_getElem h2] at e2
      injection e2 with e2
      rw [List.getElem_map]
      exact e2.symm
  rw [e]
  exact g5
theorem Strs.at_ {w : World} {A : Option Addr} {n c : Nat} {l : List (List UInt8)} (h : Strs w (.slice A n c) l) {i : Nat} (hi : i < n) : ∃ ad x, A = some ad ∧ l[i]? = some x ∧ w.cell? (ad.add i) = some (.string ⟨x.toArray⟩) := by
  obtain ⟨A', n', c', e, h1, h2, h3, h4⟩ := h
  injection e with e1 e2 e3
  subst e1 e2 e3
  have hl : i < l.length := by omega
  have hx : (l.map fun x => Value.string ⟨x.toArray⟩)[i]? = some (.string ⟨(l[i]).toArray⟩) := by rw [List.getElem?_map, List.getElem?_eq_getElem hl]; rfl
  obtain ⟨ad, e, hc⟩ := h4 i _ hx
  exact ⟨ad, l[i], e, List.getElem?_eq_getElem hl, hc⟩
theorem Strs.len {w : World} {A : Option Addr} {n c : Nat} {l : List (List UInt8)} (h : Strs w (.slice A n c) l) : l.length = n ∧ n ≤ c ∧ c ≤ maxLen := by
  obtain ⟨A', n', c', e, h1, h2, h3, h4⟩ := h
  injection e with e1 e2 e3
  subst e1 e2 e3
  exact ⟨h1, h2, h3⟩
theorem Strs.own {w : World} {base : Nat} {e : TypeId} {v : Value} {n : Nat} {l : List (List UInt8)} (hl : l.length = n) (h : w.ownsRow base e 1 v n (l.map fun x => .string ⟨x.toArray⟩)) : Strs w v l := by
  rcases h.2 with ⟨rfl, rfl⟩ | ⟨g, cap, cur, rfl, _, _, hnc, hcm, _⟩
  · have : l = [] := List.eq_nil_of_length_eq_zero hl
    subst this
    exact ⟨none, 0, 0, rfl, rfl, Nat.le_refl _, by unfold maxLen; omega, Rd.nil _ _⟩
  · exact ⟨_, n, cap, rfl, hl, hnc, hcm, Rd.own h⟩
/-- a byte of a row of one's own -/
theorem own_byte {w : World} {base : Nat} {e : TypeId} {A : Option Addr} {n c : Nat} {l : List UInt8} (h : w.ownsRow base e 1 (.slice A n c) n (bv l)) {i : Nat} (hi : i < n) :
    ∃ g cur, A = some ⟨g, 0, none⟩ ∧ base ≤ g ∧ Blk w g e cur ∧ i < cur.size ∧ ∀ (w' : World) (x : UInt8), Blk w' g e (cur.setIfInBounds i (.int .u8 (x.toNat : Int))) → w'.ownsRow base e 1 (.slice A n c) n (bv (l.set i x)) := by
  rcases h.2 with ⟨e1, e2⟩ | ⟨g, cap, cur, e1, hb, hh, hc, hm, hs, ht⟩
  · omega
  · injection e1 with e1 e3 e4
    subst e1 e4
    have hl : l.length = n := by have := h.1; rw [bv_length] at this; omega
    refine ⟨g, cur, rfl, hb, hh, by omega, fun w' x hx => ⟨by rw [bv_length, List.length_set]; omega, .inr ⟨g, c, _, rfl, hb, hx, hc, hm, by rw [Array.size_setIfInBounds]; exact hs, ?_⟩⟩⟩
    rw [Array.toList_setIfInBounds, List.take_set, ht, bv_set]
end Go.Mun

namespace Go.Mun
open Go Go.RowKit Go.Proofs Go.Maps

theorem Free.argB {k : Nat} {o : Own} {w0 : World} {v : Value} {l : List Bool} (hb : ∀ b, b < w0.heap.size → o b = none) (h : Bools w0 v l) : Free o k v := fun ad n c e hn t => by
  obtain ⟨A, n', c', e', h1, _, _, h4⟩ := h
  rw [e] at e'
  injection e' with e1 e2 e3
  subst e1 e2
  obtain ⟨u, hu⟩ : ∃ u, (l.map Value.bool)[0]? = some u := ⟨_, List.getElem?_eq_getElem (by rw [List.length_map]; omega)⟩
  obtain ⟨ad', e5, hc⟩ := h4 0 u hu
  injection e5 with e5
  subst e5
  have := World.block_lt_of_cell? w0 _ hc
  rw [add_block] at this
  rw [hb _ this]
  simp
/-- bytes in a block that is nobody's -/
structure Lone (o : Own) (w : World) (v : Value) (l : List UInt8) : Prop where
  bytes : Bytes w v l
  none : ∀ ad n c, v = .slice (some ad) n c → 0 < n → o ad.block = none
theorem Lone.free {o : Own} {w : World} {v : Value} {l : List UInt8} (h : Lone o w v l) (k : Nat) : Free o k v := fun ad n c e hn t => by rw [h.none ad n c e hn]; simp
theorem Lone.turn {k : Nat} {o o' : Own} {w w' : World} {v : Value} {l : List UInt8} (h : Lone o w v l) (hT : Turn k o o' w w') : Lone o' w' v l :=
  ⟨h.bytes.turn hT (h.free k), fun ad n c e hn => by
    have hb := h.bytes
    rw [e] at hb
    rw [hT.old _ (bytes_lt hb hn)]
    exact h.none ad n c e hn⟩
theorem Lone.ext {o : Own} {w w' : World} {v : Value} {l : List UInt8} (h : Lone o w v l) (hb : Below w.heap.size w w') : Lone o w' v l := ⟨h.bytes.ext hb, h.none⟩
theorem Lone.own {o : Own} {w w' : World} {base : Nat} {e : TypeId} {v : Value} {n : Nat} {l : List UInt8} (ho : OwnIn o w) (hw : w.heap.size ≤ base) (h : w'.ownsRow base e 1 v n (bv l)) : Lone o w' v l :=
  ⟨Bytes.own h, fun ad n' c ev _ => by
    rcases h.2 with ⟨e1, _⟩ | ⟨g, cap, cur, e1, hb, _⟩
    · rw [ev] at e1; cases e1
    · rw [ev] at e1
      injection e1 with e1
      injection e1 with e1
      rw [e1]
      exact ho _ (Nat.le_trans hw hb)⟩
/-- a row in a block that is nobody's -/
structure LoneR (o : Own) (w : World) (base : Nat) (e : TypeId) (size : Nat) (v : Value) (n : Nat) (xs : List Value) : Prop where
  row : w.ownsRow base e size v n xs
  none : ∀ g, v.ownBlock = some g → o g = none
theorem LoneR.turn {k : Nat} {o o' : Own} {w w' : World} {base : Nat} {e : TypeId} {size n : Nat} {v : Value} {xs : List Value} (h : LoneR o w base e size v n xs) (hT : Turn k o o' w w') : LoneR o' w' base e size v n xs :=
  ⟨own_same h.row fun g hg => hT.block g (h.row.lt g hg).2 fun t => by rw [h.none g hg]; simp, fun g hg => by rw [hT.old _ (h.row.lt g hg).2]; exact h.none g hg⟩
theorem LoneR.ext {o : Own} {w w' : World} {base : Nat} {e : TypeId} {size n : Nat} {v : Value} {xs : List Value} (h : LoneR o w base e size v n xs) (hb : Below w.heap.size w w') : LoneR o w' base e size v n xs := ⟨own_ext h.row hb, h.none⟩
theorem LoneR.new {o : Own} {w w' : World} {base : Nat} {e : TypeId} {size n : Nat} {v : Value} {xs : List Value} (ho : OwnIn o w) (hw : w.heap.size ≤ base) (h : w'.ownsRow base e size v n xs) : LoneR o w' base e size v n xs :=
  ⟨h, fun g hg => ho g (Nat.le_trans hw (h.lt g hg).1)⟩
/-- a row that is k's, and grows -/
structure RowK (k : Nat) (o : Own) (w : World) (base : Nat) (e : TypeId) (size : Nat) (v : Value) (n : Nat) (xs : List Value) : Prop where
  row : w.ownsRow base e size v n xs
  own : ∀ g, v.ownBlock = some g → o g = some (k, .waits)
theorem RowK.nil (k : Nat) (o : Own) (w : World) (base : Nat) (e : TypeId) (size : Nat) : RowK k o w base e size (.slice none 0 0) 0 [] := ⟨World.ownsRow_nil _ _ _ _, fun g h => by cases h⟩
theorem RowK.turn {k j : Nat} {o o' : Own} {w w' : World} {base : Nat} {e : TypeId} {size n : Nat} {v : Value} {xs : List Value} (h : RowK k o w base e size v n xs) (hT : Turn j o o' w w') (hj : k ≠ j) : RowK k o' w' base e size v n xs :=
  ⟨own_same h.row fun g hg => (hT.other hj (h.row.lt g hg).2 (h.own g hg)).1, fun g hg => (hT.other hj (h.row.lt g hg).2 (h.own g hg)).2⟩
theorem RowK.ext {k : Nat} {o : Own} {w w' : World} {base : Nat} {e : TypeId} {size n : Nat} {v : Value} {xs : List Value} (h : RowK k o w base e size v n xs) (hb : Below w.heap.size w w') : RowK k o w' base e size v n xs := ⟨own_ext h.row hb, h.own⟩
theorem RowK.grow {k : Nat} {o : Own} {w w' : World} {base : Nat} {e : TypeId} {size n n' : Nat} {v v' : Value} {xs xs' : List Value} (h : RowK k o w base e size v n xs) (ho : OwnIn o w) (h' : w'.ownsRow base e size v' n' xs') (hg : w.grownBy w' v.ownBlock) (hat : v'.ownBlock = v.ownBlock ∨ v'.ownBlock = some w.heap.size) :
    ∃ o', RowK k o' w' base e size v' n' xs' ∧ Turn k o o' w w' ∧ OwnIn o' w' := by
  have T := Turn.row ho hg h.own
  rcases hat with e1 | e1
  · exact ⟨o, ⟨h', fun g hg' => h.own g (e1 ▸ hg')⟩, T, ho.more hg.size⟩
  · have hlt := (h'.lt _ e1).2
    refine ⟨give o w.heap.size (k, .waits), ⟨h', fun g hg' => ?_⟩, T.give (Nat.le_refl _) _, (ho.more hg.size).give hlt _⟩
    rw [e1] at hg'
    injection hg' with hg'
    subst hg'
    exact give_same _ _ _
theorem run_row_four {P : Program} {t e : TypeId} {z : Value} {bytes : Nat} (hT : SliceTy P t e z 1 bytes) (x y u s : Value) (hx : x.cells = #[x]) (hy : y.cells = #[y]) (hu : u.cells = #[u]) (hs : s.cells = #[s]) (w : World) :
    (Instr.buildSlice t 4 #[(0, x), (1, y), (2, u), (3, s)]).run P w = .ok (.slice (some ⟨w.heap.size, 0, none⟩) 4 4) (w.alloc (.cells #[x, y, u, s] e)) := by
  obtain ⟨ht, i, hi, hz, hsz, hby, hzs, h0⟩ := hT
  have hf : Instr.fill (fun k => some (k * 1, 1)) ((Array.range 4).map (fun k => z.cells[k % z.cells.size]!)) [(0, x), (1, y), (2, u), (3, s)] = some #[x, y, u, s] := by
    simp [Instr.fill, hx, hy, hu, hs, Array.range]
    apply Array.ext_getElem?
    intro j
    match j with
    | 0 => simp
    | 1 => simp
    | 2 => simp
    | 3 => simp
    | j + 4 => simp
  simp [Instr.buildSlice, run_underlying ht, sizeOf, typeInfo, hi, hsz, hz, zeroValue, newRow]
  simp only [Nat.mul_one] at hf
  rw [hf]
  rfl
theorem wpList_row_four {P : Program} {ops : Array Oper} {rest : List Oper} {o : Oper} {a : Act} {w : World} {Q : Exit → Act → World → Prop} (hgd : o.guard = none) {t e : TypeId} (x y r q : Operand) (ho : o.op = .buildSlice t 4 #[(0, x), (1, y), (2, r), (3, q)])
    {z : Value} {bytes : Nat} (hT : SliceTy P t e z 1 bytes) {v u s p : Value} (hx : a.eval x = v) (hy : a.eval y = u) (hr : a.eval r = s) (hq : a.eval q = p) (hv : v.cells = #[v]) (hu : u.cells = #[u]) (hs : s.cells = #[s]) (hp : p.cells = #[p])
    (h : ∀ w', Blk w' w.heap.size e #[v, u, s, p] → Below w.heap.size w w' → w.heap.size < w'.heap.size → wpList P ops Q rest (a.put o.dst (.slice (some ⟨w.heap.size, 0, none⟩) 4 4)) w') : wpList P ops Q (o :: rest) a w := by
  refine wpList_plain hgd fun _ hK => ?_
  have hn := run_row_four hT v u s p hv hu hs hp w
  unfold Oper.wp execOp
  simp only [ho, List.map_toArray, List.map_cons, List.map_nil, hx, hy, hr, hq, Sem.run_bind, hn, Result.andThen_ok, Sem.run_pure]
  exact hK _ _ (h _ (Blk.new w e _) ((Below.refl _ _).alloc (Nat.le_refl _) _) (by simp))
end Go.Mun

namespace Go.Mun
open Go Go.RowKit Go.Proofs Go.Maps

section
variable {k p : Nat} {M : FSs} {φ : Nat → Nat} {o : Own} {K L : Nat} {w : World}
set_option maxRecDepth 100000 in
set_option maxHeartbeats 2000000 in
theorem DelR_any (h : RelR k p M φ o K L w) (n : Ky) (CO0 : OpAny k p M o K L w) (hKb : K ≤ 100000) :
    Calls Try.prog 42 #[.pointer (some ⟨p, 0, none⟩), .string ⟨n.toArray⟩] w fun e w' => e = .returned (.bool (goesB M (isB M n))) ∧ ∃ o' φ', RelR k p (delM M n) φ' o' (K + 2) L w' ∧ Turn k o o' w w' := by
  have CO := Lib.hid CO0
  have zC := zChgR
  obtain ⟨vn, vs, vw, vk, pl, c0, c1, lf, hh⟩ := h.head
  have CF := Lib.hid (find_any φ vn M.now n w (Ents.own hh.now) h.fine.rnow)
  have HR := Lib.hid h
  have hx := hh.blk
  obtain ⟨An, cn, rfl⟩ := row_slC hh.now
  have y0 := hx.cellv (i := 0) rfl
  cases hb : isB M n
  · unfold delM
    rw [thenM_no hb]
    cases hd : M.dead
    · have HG := Lib.hid (isB_no hb hd)
      rw [hd] at hx
      clear hb hh h hd CO0
      go_enter Try.func42, Try.ntmps42
      go_wp2_with (first
        | (go_at_call 32; (with_reducible refine CF.out.mono ?_); rintro e w1 ⟨kx, he, PL, hb1⟩; rw [HG.out] at he; have he2 : e = .returned (.tuple #[.int .i64 (kx : Nat), .bool false]) := he; clear he; subst he2; have HB1 := hb1; have hx1 := hx.ext hb1; have y8 := hx1.cellv (i := 8) rfl)
        | fail)
      go_ret
      exact ⟨rfl, o, φ, (HR.out.ext hb1).more (by omega) (Nat.le_refl _), Turn.below HR.out.own hb1⟩
    · rw [hd] at hx
      clear hb hh h hd CO0
      go_enter Try.func42, Try.ntmps42
      go_wp2_with (first
        | (go_at_call 32; (with_reducible refine CF.out.mono ?_); rintro e w1 ⟨kx, rfl, PL, hb1⟩; have hx1 := hx.ext hb1; have y8 := hx1.cellv (i := 8) rfl)
        | fail)
      go_ret
      exact ⟨rfl, o, φ, (HR.out.ext hb1).more (by omega) (Nat.le_refl _), Turn.below HR.out.own hb1⟩
  · have HB := Lib.hid hb
    obtain ⟨i, hg⟩ := isB_get hb
    have HG := Lib.hid hg
    have HNM := Lib.hid (h.fine.names _ (getP_mem hg))
    rw [isB_live hb] at hx
    cases hf : failsB M
    · have HF := Lib.hid hf
      clear hb hh h hg hf CO0
      go_enter Try.func42, Try.ntmps42
      go_upto_region 7 with (first
        | (go_at_call 32; (with_reducible refine CF.out.mono ?_); rintro e w1 ⟨kx, he, PL, hb1⟩; rw [HG.out] at he; have he2 : e = .returned (.tuple #[.int .i64 (kx : Nat), .bool true]) := he; clear he; subst he2; have HB1 := hb1; have hx1 := hx.ext hb1; have y8 := hx1.cellv (i := 8) rfl)
        | (go_at_call 33; (with_reducible refine (CO.out.at_ _ HB1).mono ?_); rintro e w2 ⟨he, o2, φ2, h2, T2⟩; rw [HF.out] at he; have he3 : e = .returned (.bool true) := he; clear he; subst he3)
        | ((with_reducible refine gd_alloc ?_); refine wpList_alloc_blk rfl 72 rfl zC ?_; intro w4 hx4 hb4 hl4)
        | ((with_reducible refine gd_store ?_); refine wpList_store_all rfl 72 (.tmp 8) (.tmp 30) rfl #[.string ⟨n.toArray⟩, .string ⟨#[]⟩, .pointer none] hx4 chgTyA rfl rfl rfl rfl ?_; intro w5 hx5 hg5)
        | fail)
      obtain ⟨_, _, _, _, _, _, _, _, hh2⟩ := h2.head
      have hp2 : p < w2.heap.size := h2.own.lt hh2.op
      clear hh2
      have hb35 := below_blk hb4 hb4.size hg5 (Nat.le_refl _)
      have h5 := h2.ext hb35
      have T5 := (Turn.below HR.out.own HB1).trans (T2.trans (Turn.below h2.own hb35))
      obtain ⟨M2, hM2⟩ : ∃ x, x = failsM M := ⟨_, rfl⟩
      rw [← hM2] at h5
      have HM2 := Lib.hid hM2
      have hpr : (chR φ2 (.del n)).toArray = #[.string ⟨n.toArray⟩, .string ⟨#[]⟩, .pointer none] := rfl
      rw [← hpr] at hx5
      obtain ⟨cs, hcs⟩ : ∃ x, x = chR φ2 (.del n) := ⟨_, rfl⟩
      rw [← hcs] at hx5
      have HCS := Lib.hid hcs
      have HCN := Lib.hid (show cs.length = 3 by rw [hcs, chR_length])
      have HCL := Lib.hid (show cs.toArray.size = 3 by rw [hcs]; rfl)
      have HC1 := Lib.hid (show ∀ u ∈ cs, u.oneCell' = true by rw [hcs]; exact chR_one φ2 _)
      obtain ⟨vn5, vs5, vw5, vk5, pl5, e0, e1, lf5, hh5⟩ := h5.head
      obtain ⟨AN, cN, rfl⟩ := row_slC hh5.now
      obtain ⟨AW, cW, rfl⟩ := row_slC hh5.waits
      have H5 := Lib.hid hh5
      have R5 := Lib.hid h5
      have T5' := Lib.hid T5
      have hnl := h5.nowlen
      have hwl := h5.size
      have HCG := Lib.hid (show ChgOk M2.now (.del n) from HNM.out)
      obtain ⟨Pn, hPn⟩ : ∃ x, x = doC M2.now (.del n) := ⟨_, rfl⟩
      have HPN := Lib.hid hPn
      have HDN := Lib.hid (fun (w' : World) (hen : Ents φ2 w' (.slice AN M2.now.length cN) M2.now) => done_any φ2 _ M2.now (.del n) w' hen R5.out.fine.rnow (by omega) HCG.out)
      rw [← hPn, ← hcs] at HDN
      have hpw : p < w5.heap.size := h5.own.lt hh5.op
      have hx := hh5.blk
      have hcp : w2.heap.size ≠ p := by omega
      have HPW := Lib.hid hpw
      have HCR := Lib.hid (show some w2.heap.size ≠ (Value.slice AW M2.waits.length cW).ownBlock from fun e => by have := h2.own.lt (hh5.ow _ e.symm); omega)
      clear h2 hb35 T2 T5 hM2 hcs hpr hPn hh5 h5 hx4 hb4 hg5 hl4 y0 y8 hx1 hpw
      obtain ⟨q, hq⟩ : ∃ q, q = w5.heap.size := ⟨_, rfl⟩
      have HPQ := Lib.hid (show p < q by rw [hq]; exact HPW.out)
      have HGC := Lib.hid (fun (w' : World) (hb : w5.drew.grownBy w' (some p)) => (show Blk w5.drew w2.heap.size _ _ from hx5).grown hb (by intro e; injection e with e; exact hcp e))
      have HEN := Lib.hid (fun (w' : World) (hb : w5.drew.grownBy w' (some p)) => Ents.own (own_same H5.out.now (w' := w') fun g hg => hb.block g (R5.out.own.lt (H5.out.on g hg)) (by intro e; injection e with e; exact own_ne (H5.out.on g hg) H5.out.op (by simp) e)))
      have hq0 : q ≤ w5.drew.heap.size := by rw [hq]; exact Nat.le_refl _
      have HQ := Lib.hid hq
      clear hq
      refine wp_region_phase (by kernel_rfl) (by kernel_rfl) (by kernel_rfl) (fun w w' => w.grownBy w' (some p)) (fun _ => World.grownBy.refl _ _) (fun _ _ _ h k => h.trans k) (SDn p q M2.now.length cN AN cs φ2 Pn) (SDn_stays _ _ _ _ _ _ _ _ HPQ.out) (JDn p q M2.now.length cN AN φ2 Pn (fun v => #[v, vs5, .slice AW M2.waits.length cW, .bool pl5, .int .i64 e0, .int .i64 e1, vk5, .int .i64 lf5, .bool M2.dead, .int .i64 M2.ops])) ⟨fun _ => hx, fun e => (by cases e), hq0⟩ ?_ ?_
      · simp only [PhStep]
        refine ⟨?_, ?_, ?_, ?_, ?_, ?_, ?_, ?_, ?_, ?_, trivial⟩
        · intro L V w' hb hj hl hdo hcl hd
          clear hdo hcl
          clear hd
          refine ⟨?_⟩
          simp only [fill]
          go_wp2
          exact ⟨⟨rfl, rfl, World.grownBy.refl _ _, rfl⟩, hj.far (by decide)⟩
        · intro L V w' hb hj hl hdo hcl hd
          clear hdo hcl
          clear hd
          refine ⟨?_⟩
          simp only [fill]
          go_wp2
          exact ⟨⟨rfl, rfl, World.grownBy.refl _ _, rfl⟩, hj.far (by decide)⟩
        · intro L V w' hb hj hl hdo hcl hd
          clear hdo hcl
          simp only [DepFacts, SDn, Region.binds, forall_const, and_true] at hd
          refine ⟨?_⟩
          simp only [fill, hd]
          clear hd
          go_wp2
          exact ⟨⟨rfl, rfl, World.grownBy.refl _ _, rfl⟩, hj.far (by decide)⟩
        · intro L V w' hb hj hl hdo hcl hd
          clear hdo hcl
          simp only [DepFacts, SDn, Region.binds, forall_const, and_true] at hd
          refine ⟨?_⟩
          simp only [fill, hd]
          clear hd
          go_wp2
          exact ⟨⟨rfl, rfl, World.grownBy.refl _ _, rfl⟩, hj.far (by decide)⟩
        · intro L V w' hb hj hl hdo hcl hd
          have h9 : L 9 = false := Bool.eq_false_iff.2 fun e => by have := hcl 6 4 (by kernel_rfl) (hcl 9 6 (by kernel_rfl) e); rw [this] at hl; cases hl
          have yj := (hj.head0 h9).cellv (i := 0) rfl
          clear hdo hcl
          simp only [DepFacts, SDn, Region.binds, forall_const, and_true] at hd
          refine ⟨?_⟩
          simp only [fill, hd]
          clear hd
          go_wp2
          exact ⟨⟨rfl, rfl, World.grownBy.refl _ _, rfl⟩, hj.far (by decide)⟩
        · intro L V w' hb hj hl hdo hcl hd
          have hgc := HGC.out _ hb
          clear hdo hcl
          clear hd
          refine ⟨?_⟩
          simp only [fill]
          simp only [Act.put, List.setIfInBounds_toArray, List.set_cons_zero, List.set_cons_succ]
          go_wp2_with (first | ((with_reducible refine gd_load ?_); refine wpList_load_blk rfl 72 (.tmp 8) rfl hgc (by rw [HCL.out]; exact chgTyA) rfl ?_) | fail)
          exact ⟨⟨rfl, rfl, World.grownBy.refl _ _, rfl⟩, hj.far (by decide)⟩
        · intro L V w' hb hj hl hdo hcl hd
          have hen := HEN.out _ hb
          have h9 : L 9 = false := Bool.eq_false_iff.2 fun e => by have := hcl 9 6 (by kernel_rfl) e; rw [this] at hl; cases hl
          have hq := hj.low
          clear hdo hcl
          simp only [DepFacts, SDn, Region.binds, forall_const, and_true] at hd
          refine ⟨?_⟩
          simp only [fill, hd]
          clear hd
          simp only [Act.put, List.setIfInBounds_toArray, List.set_cons_zero, List.set_cons_succ]
          go_wp2_with (first | (go_at_call 34; (with_reducible refine (HDN.out _ hen).mono ?_); rintro e w3 ⟨v3, rfl, ho2, hb3⟩) | fail)
          exact ⟨⟨rfl, rfl, ⟨hb3.os, hb3.tape, hb3.output, hb3.size, fun k hk _ => hb3.block k hk⟩, own_base ho2 hq⟩, hj.ext h9 hb3⟩
        · intro L V w' hb hj hl hdo hcl hd
          clear hcl
          have d0 : V 0 = .pointer (some ⟨p, 0, none⟩) := by
            simp only [DepFacts, SDn, Region.binds, forall_const, and_true] at hd
            first | exact hd.1 | exact hd
          clear hdo hd
          refine ⟨?_⟩
          simp only [fill, d0]
          clear d0
          go_wp2
          exact ⟨⟨rfl, rfl, World.grownBy.refl _ _, rfl⟩, hj.far (by decide)⟩
        · intro L V w' hb hj hl hdo hcl hd
          clear hcl
          have d0 : V 7 = .pointer (some ⟨p, 0, none⟩) := by
            simp only [DepFacts, SDn, Region.binds, forall_const, and_true] at hd
            first | exact hd.1 | exact hd
          clear hdo hd
          refine ⟨?_⟩
          simp only [fill, d0]
          clear d0
          go_wp2
          exact ⟨⟨rfl, rfl, World.grownBy.refl _ _, rfl⟩, hj.far (by decide)⟩
        · intro L V w' hb hj hl hdo hcl hd
          have hx := hj.head0 hl
          clear hdo hcl
          have d8 : V 8 = .pointer (some ⟨p, 0, none⟩) := by
            simp only [DepFacts, SDn, Region.binds, forall_const, and_true] at hd
            exact hd.1
          have d6 : SDn p q M2.now.length cN AN cs φ2 Pn 6 (V 6) w' := by
            simp only [DepFacts, Region.binds, forall_const, and_true] at hd
            exact hd.2.1
          clear hd
          obtain ⟨A6, c6, e6⟩ := row_slC d6
          have d6r : w'.ownsRow q 75 2 (.slice A6 Pn.length c6) Pn.length (erow φ2 Pn) := by rw [← e6]; exact d6
          clear d6
          refine ⟨?_⟩
          simp only [fill, e6, d8]
          clear e6 d8
          simp only [Act.put, List.setIfInBounds_toArray, List.set_cons_zero, List.set_cons_succ]
          go_wp2_with (first | ((with_reducible refine gd_store ?_); refine wpList_store_cell rfl 32 (.tmp 39) (.tmp 37) rfl (i := 0) (v := .slice A6 Pn.length c6) hx (show 0 < 10 by decide) (by kernel_rfl) rfl rfl rfl ?_; intro w3 hx3 hg3) | fail)
          exact ⟨⟨rfl, rfl, hg3, trivial⟩, hj.store hx3 hg3 (own_kept d6r hg3 HPQ.out)⟩
      · intro Lx V w9 hL hb9 hs hj
        obtain ⟨v9, hx9, ho9⟩ := hj.head1 (hL 9 (by decide))
        clear hs hj hL
        simp only [fill]
        try simp only [Exit.then]
        try go_simp
        go_upto_region 8 with (fail)
        have hb59 : w5.grownBy w9 (some p) := ⟨hb9.os, hb9.tape, hb9.output, hb9.size, hb9.block⟩
        have ho5 := R5.out.own
        have hp9 : p < w9.heap.size := hx9.lt
        have st9 : ∀ {b t}, o2 b = some (k, t) → t ≠ .fs → w9.heap[b]? = w5.heap[b]? := fun {b t} e n1 => same_of hb59 (ho5.lt e) e (one_some H5.out.op) n1
        have how9 := own_same H5.out.waits (w' := w9) fun g hg => st9 (H5.out.ow g hg) (by simp)
        have HST9 := Lib.hid (fun (b : Nat) (t : Tag) (e : o2 b = some (k, t)) (n1 : t ≠ .fs) => st9 e n1)
        have hcg9 : Blk w9 w2.heap.size 72 cs.toArray := hx5.grown hb59 (by intro e; injection e with e; exact hcp e)
        obtain ⟨q2, hq2⟩ : ∃ q, q = w9.heap.size := ⟨_, rfl⟩
        have hpq2 : p < q2 := by rw [hq2]; exact hp9
        have HPQ := Lib.hid hpq2
        have hlw : ∀ g, (Value.slice AW M2.waits.length cW).ownBlock = some g → g < q2 := fun g hg => by
          have := ho5.lt (H5.out.ow g hg)
          have := hb59.size
          omega
        have hpr2 : some p ≠ (Value.slice AW M2.waits.length cW).ownBlock := fun e => own_ne H5.out.op (H5.out.ow p e.symm) (by simp) rfl
        have HPR := Lib.hid hpr2
        have hcr : some w2.heap.size ≠ (Value.slice AW M2.waits.length cW).ownBlock := HCR.out
        have HGC := Lib.hid (fun (w' : World) (hb : Wr2 p (Value.slice AW M2.waits.length cW).ownBlock w9.drew w') => (show Blk w9.drew w2.heap.size _ _ from hcg9).wr2 hb hcp hcr)
        have hq20 : q2 ≤ w9.drew.heap.size := by rw [hq2]; exact Nat.le_refl _
        have HQ2 := Lib.hid hq2
        have HLW := Lib.hid hlw
        have HB59 := Lib.hid hb59
        have HO9 := Lib.hid ho9
        have hx9' : Blk w9.drew p 37 _ := hx9
        have how9' := own_drew how9
        clear hq2 hb59 hb9 hcg9 hcr hlw hpr2 ho9 hx st9 hx9 how9
        refine wp_region_phase (by kernel_rfl) (by kernel_rfl) (by kernel_rfl) (Wr2 p (Value.slice AW M2.waits.length cW).ownBlock) Wr2.refl (fun _ _ _ h k => h.trans k) (SWt p q2 M2.waits.length cW AW cs) (SWt_stays p q2 M2.waits.length cW AW cs HPQ.out HLW.out) (JWt p q2 M2.waits.length cW AW cs (crow φ2 M2.waits) (fun v => #[v9, vs5, v, .bool pl5, .int .i64 e0, .int .i64 e1, vk5, .int .i64 lf5, .bool M2.dead, .int .i64 M2.ops])) ⟨fun _ => hx9', fun _ => how9', fun e => (by cases e), fun e => (by cases e), hq20⟩ ?_ ?_
        · simp only [PhStep]
          refine ⟨?_, ?_, ?_, ?_, ?_, ?_, ?_, ?_, ?_, ?_, ?_, trivial⟩
          · intro L V w' hb hj hl hdo hcl hd
            clear hdo hcl
            clear hd
            refine ⟨?_⟩
            simp only [fill]
            go_wp2
            exact ⟨⟨rfl, rfl, Wr2.refl _, rfl⟩, hj.far (by decide) (by decide)⟩
          · intro L V w' hb hj hl hdo hcl hd
            clear hdo hcl
            clear hd
            refine ⟨?_⟩
            simp only [fill]
            go_wp2
            exact ⟨⟨rfl, rfl, Wr2.refl _, rfl⟩, hj.far (by decide) (by decide)⟩
          · intro L V w' hb hj hl hdo hcl hd
            clear hdo hcl
            simp only [DepFacts, SWt, Region.binds, forall_const, and_true] at hd
            refine ⟨?_⟩
            simp only [fill, hd]
            clear hd
            go_wp2
            exact ⟨⟨rfl, rfl, Wr2.refl _, rfl⟩, hj.far (by decide) (by decide)⟩
          · intro L V w' hb hj hl hdo hcl hd
            clear hdo hcl
            simp only [DepFacts, SWt, Region.binds, forall_const, and_true] at hd
            refine ⟨?_⟩
            simp only [fill, hd]
            clear hd
            go_wp2
            exact ⟨⟨rfl, rfl, Wr2.refl _, rfl⟩, hj.far (by decide) (by decide)⟩
          · intro L V w' hb hj hl hdo hcl hd
            have h10 : L 10 = false := Bool.eq_false_iff.2 fun e => by have := hcl 7 4 (by kernel_rfl) (hcl 10 7 (by kernel_rfl) e); rw [this] at hl; cases hl
            have yj := (hj.head0 h10).cellv (i := 2) rfl
            clear hdo hcl
            simp only [DepFacts, SWt, Region.binds, forall_const, and_true] at hd
            refine ⟨?_⟩
            simp only [fill, hd]
            clear hd
            go_wp2
            exact ⟨⟨rfl, rfl, Wr2.refl _, rfl⟩, hj.far (by decide) (by decide)⟩
          · intro L V w' hb hj hl hdo hcl hd
            have hgc := HGC.out _ hb
            clear hdo hcl
            clear hd
            refine ⟨?_⟩
            simp only [fill]
            simp only [Act.put, List.setIfInBounds_toArray, List.set_cons_zero, List.set_cons_succ]
            go_wp2_with (first | ((with_reducible refine gd_load ?_); refine wpList_load_blk rfl 72 (.tmp 8) rfl hgc (by rw [HCL.out]; exact chgTyA) rfl ?_) | fail)
            exact ⟨⟨rfl, rfl, Wr2.refl _, rfl⟩, hj.far (by decide) (by decide)⟩
          · intro L V w' hb hj hl hdo hcl hd
            have hq := hj.low
            clear hdo hcl
            simp only [DepFacts, SWt, Region.binds, forall_const, and_true] at hd
            refine ⟨?_⟩
            simp only [fill, hd]
            clear hd
            simp only [Act.put, List.setIfInBounds_toArray, List.set_cons_zero, List.set_cons_succ]
            go_wp2_with (first | ((with_reducible refine gd_rowC ?_); refine wpList_row_one rfl (.tmp 45) rfl chgTyR (by decide) (cs := cs.toArray) rfl HCL.out ?_; intro w3 hx3 hb3 hl3) | fail)
            exact ⟨⟨rfl, rfl, Wr2.below hb3, w'.heap.size, rfl, hq, hx3⟩, (hj.ext hb3).far (by decide) (by decide)⟩
          · intro L V w' hb hj hl hdo hcl hd
            have h10 : L 10 = false := Bool.eq_false_iff.2 fun e => by have := hcl 10 7 (by kernel_rfl) e; rw [this] at hl; cases hl
            have hr0 := hj.row0 hl
            clear hdo hcl
            simp only [DepFacts, SWt, Region.binds, forall_const, and_true] at hd
            obtain ⟨d4, g6, d6, _, hx6⟩ := hd
            refine ⟨?_⟩
            simp only [fill, d4, d6]
            clear d4 d6
            simp only [Act.put, List.setIfInBounds_toArray, List.set_cons_zero, List.set_cons_succ]
            go_wp2_with (first | (at_builtin; refine wpList_append_rd _ rfl (.tmp 44) (.tmp 46) _ rfl 0 _ _ 3 40 chgTyR _ _ _ rfl hr0 (some ⟨g6, 0, none⟩) 1 1 cs rfl (by rw [Nat.one_mul]; exact HCN.out) hx6.rd HC1.out (by unfold maxLen; omega) (by omega) (Nat.zero_le _) ?_; intro v3 w3 ho3 hg3 hat3) | fail)
            exact ⟨⟨rfl, rfl, Wr2.row hg3, trivial⟩, hj.app h10 ho3 hg3 hat3 HPR.out⟩
          · intro L V w' hb hj hl hdo hcl hd
            clear hcl
            have d0 : V 0 = .pointer (some ⟨p, 0, none⟩) := by
              simp only [DepFacts, SWt, Region.binds, forall_const, and_true] at hd
              first | exact hd.1 | exact hd
            clear hdo hd
            refine ⟨?_⟩
            simp only [fill, d0]
            clear d0
            go_wp2
            exact ⟨⟨rfl, rfl, Wr2.refl _, rfl⟩, hj.far (by decide) (by decide)⟩
          · intro L V w' hb hj hl hdo hcl hd
            clear hcl
            have d0 : V 8 = .pointer (some ⟨p, 0, none⟩) := by
              simp only [DepFacts, SWt, Region.binds, forall_const, and_true] at hd
              first | exact hd.1 | exact hd
            clear hdo hd
            refine ⟨?_⟩
            simp only [fill, d0]
            clear d0
            go_wp2
            exact ⟨⟨rfl, rfl, Wr2.refl _, rfl⟩, hj.far (by decide) (by decide)⟩
          · intro L V w' hb hj hl hdo hcl hd
            have h7 : L 7 = true := hdo 7 (by kernel_rfl)
            have hx := hj.head0 hl
            obtain ⟨hr1, hat7⟩ := hj.row1 h7
            clear hdo hcl
            have d9 : V 9 = .pointer (some ⟨p, 2, none⟩) := by
              simp only [DepFacts, SWt, Region.binds, forall_const, and_true] at hd
              exact hd.1
            clear hd
            have hp7 : (V 7).ownBlock ≠ some p := by
              intro e
              rcases hat7 with h | ⟨g, h, hq⟩
              · exact HPR.out (e.symm.trans h)
              · rw [h] at e; injection e with e; have := HPQ.out; omega
            have h71 := own_one hr1
            refine ⟨?_⟩
            simp only [fill, d9]
            clear d9
            simp only [Act.put, List.setIfInBounds_toArray, List.set_cons_zero, List.set_cons_succ]
            go_wp2_with (first | ((with_reducible refine gd_store ?_); refine wpList_store_cell rfl 33 (.tmp 49) (.tmp 47) rfl (i := 2) (v := V 7) hx (show 2 < 10 by decide) (by kernel_rfl) h71 rfl rfl ?_; intro w3 hx3 hg3) | fail)
            exact ⟨⟨rfl, rfl, Wr2.put hg3, trivial⟩, hj.store h7 hx3 hg3 hp7⟩
        · intro Lx V w10 hL hb10 hs hj
          obtain ⟨hr10, hat10⟩ := hj.row1 (hL 7 (by decide))
          have hx10 := hj.head1 (hL 10 (by decide))
          clear hs hj hL
          generalize V 7 = v10 at hr10 hat10 hx10
          simp only [fill]
          try simp only [Exit.then]
          try go_simp
          have ho5 := R5.out.own
          have s59 := HB59.out.size
          have s910 : w9.heap.size ≤ w10.heap.size := hb10.size
          have hq5 := HQ.out
          have hq9 := HQ2.out
          have hrl : ∀ g, (Value.slice AW M2.waits.length cW).ownBlock = some g → g < w5.heap.size := fun g hg => ho5.lt (H5.out.ow g hg)
          have T59 : Turn k o2 o2 w5 w9 := Turn.wrote ho5 HB59.out H5.out.op
          obtain ⟨oA, a1, a2, a3, a4⟩ : ∃ o' : Own, (∀ b, b < w5.heap.size → o' b = o2 b) ∧ OwnIn o' w9 ∧ (∀ g, v9.ownBlock = some g → o' g = some (k, .now)) ∧ Turn k o2 o' w5 w9 := by
            cases hv : v9.ownBlock with
            | none => exact ⟨o2, fun _ _ => rfl, ho5.more s59, fun g hg => (by cases hg), T59⟩
            | some g =>
              have hlt := HO9.out.lt g hv
              refine ⟨give o2 g (k, .now), fun b hb => give_ne (by omega), (ho5.more s59).give hlt.2 _, fun g' hg => ?_, T59.give (by omega) _⟩
              injection hg with hg
              subst hg
              exact give_same _ _ _
          have exA : ∀ {b : Nat} {x : Nat × Tag}, o2 b = some x → oA b = some x := fun e => by rw [a1 _ (ho5.lt e)]; exact e
          have T910 : Turn k oA oA w9 w10 := ⟨hb10.os, hb10.tape, hb10.output, hb10.size, fun b hb hn => hb10.block b hb (fun e => hn .fs (by rw [e]; exact exA H5.out.op)) (fun e => hn .waits (exA (H5.out.ow b e.symm))), fun _ _ => rfl, fun b hb => .inl (a2 b hb)⟩
          obtain ⟨oB, b1, b2, b3, b4⟩ : ∃ o' : Own, (∀ b, b < w9.heap.size → o' b = oA b) ∧ OwnIn o' w10 ∧ (∀ g, v10.ownBlock = some g → o' g = some (k, .waits)) ∧ Turn k oA o' w9 w10 := by
            rcases hat10 with h | ⟨g, h, hg⟩
            · exact ⟨oA, fun _ _ => rfl, a2.more s910, fun g hg => exA (H5.out.ow g (h ▸ hg)), T910⟩
            · have hlt := hr10.lt g h
              refine ⟨give oA g (k, .waits), fun b hb => give_ne (by omega), (a2.more s910).give hlt.2 _, fun g' hg' => ?_, T910.give (by omega) _⟩
              rw [h] at hg'
              injection hg' with hg'
              subst hg'
              exact give_same _ _ _
          have exB : ∀ {b : Nat} {x : Nat × Tag}, oA b = some x → oB b = some x := fun e => by rw [b1 _ (a2.lt e)]; exact e
          have st10 : ∀ {b : Nat} {t : Tag}, o2 b = some (k, t) → t ≠ .fs → t ≠ .waits → w10.heap[b]? = w5.heap[b]? := fun {b t} e n1 n2 => by
            have hb := ho5.lt e
            refine (hb10.block b (show b < w9.heap.size by omega) (own_ne e H5.out.op (by simpa using n1)) fun e2 => own_ne e (H5.out.ow b e2.symm) (by simpa using n2) rfl).trans (HST9.out b t e n1)
          have hv9 : w10.ownsRow 0 75 2 v9 Pn.length (erow φ2 Pn) := own_base (own_same HO9.out fun g hg => by
            have hlt := HO9.out.lt g hg
            refine hb10.block g hlt.2 (by have := HPW.out; omega) fun e => ?_
            have := hrl g e.symm
            omega) (Nat.zero_le _)
          have hcw : (waitM M2 (.del n)).waits = M2.waits ++ [.del n] := rfl
          have hh10 : HeadR k p (waitM M2 (.del n)) φ2 oB w10 v9 vs5 v10 vk5 pl5 e0 e1 lf5 := by
            refine ⟨hx10, exB (exA H5.out.op), ?_, fun g hg => exB (a3 g hg), own_same H5.out.syn fun g hg => st10 (H5.out.os g hg) (by simp) (by simp), fun g hg => exB (exA (H5.out.os g hg)), ?_, b3, H5.out.plan, fun h0 => ?_⟩
            · show w10.ownsRow 0 _ 2 v9 (doC M2.now (.del n)).length (erow φ2 (doC M2.now (.del n)))
              rw [← HPN.out]
              exact hv9
            · rw [hcw, crow_snoc, List.length_append, ← HCS.out]
              exact hr10
            · obtain ⟨u1, u2, u3, u4⟩ := H5.out.left h0
              exact ⟨u1, u2, own_same u3 fun g hg => st10 (u4 g hg) (by simp) (by simp), fun g hg => exB (exA (u4 g hg))⟩
          have h10 : RelR k p (waitM M2 (.del n)) φ2 oB (K + 2) L w10 := by
            refine ⟨R5.out.fine.wait HCG.out fun n' i e => ?_, b2, ⟨v9, vs5, v10, vk5, pl5, e0, e1, lf5, hh10⟩, fun i hi => ?_, ⟨R5.out.ops.1, by have := R5.out.ops.2; show M2.ops ≤ ((K + 2 : Nat) : Int); omega⟩, R5.out.cut, R5.out.opb, ?_⟩
            · cases e
            · rcases live_wait HCG.out hi with h1 | ⟨n', e⟩
              · exact ⟨(R5.out.file i h1).1.mono (fun e ht => st10 e (by rcases ht with rfl | rfl <;> simp) (by rcases ht with rfl | rfl <;> simp)) (fun e => exB (exA e)), (R5.out.file i h1).2⟩
              · cases e
            · rw [hcw, List.length_append]
              show M2.syn.length + (M2.waits.length + 1) ≤ K + 2
              have := R5.out.size
              omega
          have T10 := (T5'.out.trans a4).trans b4
          go_wp2
          go_ret
          refine ⟨by unfold goesB; rw [HF.out]; rfl, oB, φ2, ?_, T10⟩
          unfold delM
          rw [thenM_go HB.out HF.out, ← HM2.out]
          exact h10
    · have HF := Lib.hid hf
      clear hb hh h hg hf CO0
      go_enter Try.func42, Try.ntmps42
      go_wp2_with (first
        | (go_at_call 32; (with_reducible refine CF.out.mono ?_); rintro e w1 ⟨kx, he, PL, hb1⟩; rw [HG.out] at he; have he2 : e = .returned (.tuple #[.int .i64 (kx : Nat), .bool true]) := he; clear he; subst he2; have HB1 := hb1; have hx1 := hx.ext hb1; have y8 := hx1.cellv (i := 8) rfl)
        | (go_at_call 33; (with_reducible refine (CO.out.at_ _ HB1).mono ?_); rintro e w2 ⟨he, o2, φ2, h2, T2⟩; rw [HF.out] at he; have he3 : e = .returned (.bool false) := he; clear he; subst he3)
        | fail)
      go_ret
      unfold delM
      rw [thenM_off HB.out HF.out]
      exact ⟨by unfold goesB; rw [HF.out]; rfl, o2, φ2, h2.more (by omega) (Nat.le_refl _), (Turn.below HR.out.own HB1).trans T2⟩
end
end Go.Mun

namespace Go.Mun
open Go Go.RowKit Go.Proofs Go.Maps

section
variable {k p : Nat} {M : FSs} {φ : Nat → Nat} {o : Own} {K L : Nat} {w : World}
set_option maxRecDepth 100000 in
set_option maxHeartbeats 2000000 in
theorem RenR_any (h : RelR k p M φ o K L w) (n m : Ky) (CO0 : OpAny k p M o K L w) (hKb : K ≤ 100000) :
    Calls Try.prog 41 #[.pointer (some ⟨p, 0, none⟩), .string ⟨n.toArray⟩, .string ⟨m.toArray⟩] w fun e w' => e = .returned (.bool (goesB M (isB M n && namedB m))) ∧ ∃ o' φ', RelR k p (renM M n m) φ' o' (K + 2) L w' ∧ Turn k o o' w w' := by
  have CO := Lib.hid CO0
  have zC := zChgR
  obtain ⟨vn, vs, vw, vk, pl, c0, c1, lf, hh⟩ := h.head
  have CF := Lib.hid (find_any φ vn M.now n w (Ents.own hh.now) h.fine.rnow)
  have HR := Lib.hid h
  have hx := hh.blk
  obtain ⟨An, cn, rfl⟩ := row_slC hh.now
  have y0 := hx.cellv (i := 0) rfl
  cases hb : isB M n
  · unfold renM
    rw [thenM_no (show (isB M n && namedB m) = false by rw [hb]; rfl)]
    cases hd : M.dead
    · have HG := Lib.hid (isB_no hb hd)
      rw [hd] at hx
      clear hb hh h hd CO0
      go_enter Try.func41, Try.ntmps41
      go_wp2_with (first
        | (go_at_call 32; (with_reducible refine CF.out.mono ?_); rintro e w1 ⟨kx, he, PL, hb1⟩; rw [HG.out] at he; have he2 : e = .returned (.tuple #[.int .i64 (kx : Nat), .bool false]) := he; clear he; subst he2; have HB1 := hb1; have hx1 := hx.ext hb1; have y8 := hx1.cellv (i := 8) rfl)
        | fail)
      go_ret
      exact ⟨rfl, o, φ, (HR.out.ext hb1).more (by omega) (Nat.le_refl _), Turn.below HR.out.own hb1⟩
    · rw [hd] at hx
      clear hb hh h hd CO0
      go_enter Try.func41, Try.ntmps41
      go_wp2_with (first
        | (go_at_call 32; (with_reducible refine CF.out.mono ?_); rintro e w1 ⟨kx, rfl, PL, hb1⟩; have hx1 := hx.ext hb1; have y8 := hx1.cellv (i := 8) rfl)
        | fail)
      go_ret
      exact ⟨rfl, o, φ, (HR.out.ext hb1).more (by omega) (Nat.le_refl _), Turn.below HR.out.own hb1⟩
  · have HB := Lib.hid hb
    obtain ⟨i, hg⟩ := isB_get hb
    have HG := Lib.hid hg
    have HNM := Lib.hid (h.fine.names _ (getP_mem hg))
    rw [isB_live hb] at hx
    by_cases hm0 : m = []
    · subst hm0
      unfold renM
      rw [thenM_no (show (isB M n && namedB []) = false by rw [show namedB [] = false from by decide, Bool.and_false]), show goesB M (true && namedB []) = false from rfl]
      clear hb hh h hg CO0
      go_enter Try.func41, Try.ntmps41
      go_wp2_with (first
        | (go_at_call 32; (with_reducible refine CF.out.mono ?_); rintro e w1 ⟨kx, he, PL, hb1⟩; rw [HG.out] at he; have he2 : e = .returned (.tuple #[.int .i64 (kx : Nat), .bool true]) := he; clear he; subst he2; have HB1 := hb1; have hx1 := hx.ext hb1; have y8 := hx1.cellv (i := 8) rfl)
        | fail)
      go_ret
      exact ⟨rfl, o, φ, (HR.out.ext hb1).more (by omega) (Nat.le_refl _), Turn.below HR.out.own hb1⟩
    · have q : m.isEmpty = false := by cases m <;> simp_all
      by_cases hm1 : 100 < m.length
      · have d : decide ((100 : Int) < (m.length : Int)) = true := decide_eq_true (by omega)
        have hnm : namedB m = false := decide_eq_false fun h => by have := h.2; omega
        unfold renM
        rw [thenM_no (show (isB M n && namedB m) = false by rw [hnm, Bool.and_false]), show goesB M (true && namedB m) = false from by rw [hnm]; rfl]
        clear hb hh h hg CO0 hm0 hnm
        go_enter Try.func41, Try.ntmps41
        go_wp2_with (first
          | (go_at_call 32; (with_reducible refine CF.out.mono ?_); rintro e w1 ⟨kx, he, PL, hb1⟩; rw [HG.out] at he; have he2 : e = .returned (.tuple #[.int .i64 (kx : Nat), .bool true]) := he; clear he; subst he2; have HB1 := hb1; have hx1 := hx.ext hb1; have y8 := hx1.cellv (i := 8) rfl)
          | fail)
        go_ret
        exact ⟨rfl, o, φ, (HR.out.ext hb1).more (by omega) (Nat.le_refl _), Turn.below HR.out.own hb1⟩
      · have d : decide ((100 : Int) < (m.length : Int)) = false := decide_eq_false (by omega)
        have HMN := Lib.hid (show NameOk m from ⟨hm0, by omega⟩)
        have hnm : namedB m = true := decide_eq_true (p := m ≠ [] ∧ m.length ≤ 100) ⟨hm0, by omega⟩
        have HOK := Lib.hid (show (isB M n && namedB m) = true by rw [hb, hnm]; rfl)
        have HNMB := Lib.hid hnm
        cases hf : failsB M
        · have HF := Lib.hid hf
          by_cases hnmm : n = m
          · subst hnmm
            have sn : ((⟨n.toArray⟩ : ByteArray) != ⟨n.toArray⟩) = false := by rw [str_ne]; simp
            clear hb hh h hg hf CO0 hm0 hnm
            go_enter Try.func41, Try.ntmps41
            go_wp2_with (first
              | (go_at_call 32; (with_reducible refine CF.out.mono ?_); rintro e w1 ⟨kx, he, PL, hb1⟩; rw [HG.out] at he; have he2 : e = .returned (.tuple #[.int .i64 (kx : Nat), .bool true]) := he; clear he; subst he2; have HB1 := hb1; have hx1 := hx.ext hb1; have y8 := hx1.cellv (i := 8) rfl)
              | (go_at_call 33; (with_reducible refine (CO.out.at_ _ HB1).mono ?_); rintro e w2 ⟨he, o2, φ2, h2, T2⟩; rw [HF.out] at he; have he3 : e = .returned (.bool true) := he; clear he; subst he3)
              | fail)
            go_ret
            unfold renM
            rw [thenM_go HOK.out HF.out, ren1, if_pos rfl]
            exact ⟨by rw [HNMB.out]; unfold goesB; rw [HF.out]; rfl, o2, φ2, h2.more (by omega) (Nat.le_refl _), (Turn.below HR.out.own HB1).trans T2⟩
          · have sn : ((⟨n.toArray⟩ : ByteArray) != ⟨m.toArray⟩) = true := by rw [str_ne, decide_eq_false hnmm]; rfl
            have sl : (n == m) = false := beq_eq_false_iff_ne.2 hnmm
            have HNE := Lib.hid hnmm
            clear hb hh h hg hf CO0 hm0 hnm hnmm
            go_enter Try.func41, Try.ntmps41
            go_upto_region 6 with (first
              | (go_at_call 32; (with_reducible refine CF.out.mono ?_); rintro e w1 ⟨kx, he, PL, hb1⟩; rw [HG.out] at he; have he2 : e = .returned (.tuple #[.int .i64 (kx : Nat), .bool true]) := he; clear he; subst he2; have HB1 := hb1; have hx1 := hx.ext hb1; have y8 := hx1.cellv (i := 8) rfl)
              | (go_at_call 33; (with_reducible refine (CO.out.at_ _ HB1).mono ?_); rintro e w2 ⟨he, o2, φ2, h2, T2⟩; rw [HF.out] at he; have he3 : e = .returned (.bool true) := he; clear he; subst he3)
              | fail)
            have hg1 : getP (failsM M).now n = some i := by rw [goes_now HF.out]; exact HG.out
            obtain ⟨vn2, vs2, vw2, vk2, pl2, d0, d1, lf2, hh2⟩ := h2.head
            obtain ⟨A2, cn2, rfl⟩ := row_slC hh2.now
            obtain ⟨i2, ad, ea, hc⟩ := RelR.found2 hh2 hg1 (by rw [goes_now HF.out]; exact PL)
            subst ea
            have i1 := Int.natCast_nonneg kx
            have hx2 := hh2.blk
            have y0' := hx2.cellv (i := 0) rfl
            have hp2 : p < w2.heap.size := h2.own.lt hh2.op
            clear hh2 PL y0 y8 hx1 hx
            go_upto_region 7 with (first
              | ((with_reducible refine gd_alloc ?_); refine wpList_alloc_blk rfl 72 rfl zC ?_; intro w4 hx4 hb4 hl4)
              | ((with_reducible refine gd_store ?_); refine wpList_store_all rfl 72 (.tmp 10) (.tmp 55) rfl #[.string ⟨n.toArray⟩, .string ⟨m.toArray⟩, .pointer (some ⟨φ2 i, 0, none⟩)] hx4 chgTyA rfl rfl rfl rfl ?_; intro w5 hx5 hg5)
              | fail)
            have hb35 := below_blk hb4 hb4.size hg5 (Nat.le_refl _)
            have h5 := h2.ext hb35
            have T5 := (Turn.below HR.out.own HB1).trans (T2.trans (Turn.below h2.own hb35))
            obtain ⟨M2, hM2⟩ : ∃ x, x = failsM M := ⟨_, rfl⟩
            rw [← hM2] at h5
            have HM2 := Lib.hid hM2
            have hpr : (chR φ2 (.ren n m i)).toArray = #[.string ⟨n.toArray⟩, .string ⟨m.toArray⟩, .pointer (some ⟨φ2 i, 0, none⟩)] := rfl
            rw [← hpr] at hx5
            obtain ⟨cs, hcs⟩ : ∃ x, x = chR φ2 (.ren n m i) := ⟨_, rfl⟩
            rw [← hcs] at hx5
            have HCS := Lib.hid hcs
            have HCN := Lib.hid (show cs.length = 3 by rw [hcs, chR_length])
            have HCL := Lib.hid (show cs.toArray.size = 3 by rw [hcs]; rfl)
            have HC1 := Lib.hid (show ∀ u ∈ cs, u.oneCell' = true by rw [hcs]; exact chR_one φ2 _)
            obtain ⟨vn5, vs5, vw5, vk5, pl5, e0, e1, lf5, hh5⟩ := h5.head
            obtain ⟨AN, cN, rfl⟩ := row_slC hh5.now
            obtain ⟨AW, cW, rfl⟩ := row_slC hh5.waits
            have H5 := Lib.hid hh5
            have R5 := Lib.hid h5
            have T5' := Lib.hid T5
            have hnl := h5.nowlen
            have hwl := h5.size
            have HCG := Lib.hid (show ChgOk M2.now (.ren n m i) from (show NameOk n ∧ NameOk m ∧ n ≠ m ∧ getP M2.now n = some i from ⟨HNM.out, HMN.out, HNE.out, by rw [hM2]; exact hg1⟩))
            have HGM := Lib.hid (show getP M2.now n = some i by rw [hM2]; exact hg1)
            obtain ⟨Pn, hPn⟩ : ∃ x, x = doC M2.now (.ren n m i) := ⟨_, rfl⟩
            have HPN := Lib.hid hPn
            have HDN := Lib.hid (fun (w' : World) (hen : Ents φ2 w' (.slice AN M2.now.length cN) M2.now) => done_any φ2 _ M2.now (.ren n m i) w' hen R5.out.fine.rnow (by omega) HCG.out)
            rw [← hPn, ← hcs] at HDN
            have hpw : p < w5.heap.size := h5.own.lt hh5.op
            have hx := hh5.blk
            have hcp : w2.heap.size ≠ p := by omega
            have HPW := Lib.hid hpw
            have HCR := Lib.hid (show some w2.heap.size ≠ (Value.slice AW M2.waits.length cW).ownBlock from fun e => by have := h2.own.lt (hh5.ow _ e.symm); omega)
            clear h2 hb35 T2 T5 hM2 hcs hpr hPn hh5 h5 hx4 hb4 hg5 hl4 hg1 hx2 y0' hc hpw
            obtain ⟨q, hq⟩ : ∃ q, q = w5.heap.size := ⟨_, rfl⟩
            have HPQ := Lib.hid (show p < q by rw [hq]; exact HPW.out)
            have HGC := Lib.hid (fun (w' : World) (hb : w5.drew.grownBy w' (some p)) => (show Blk w5.drew w2.heap.size _ _ from hx5).grown hb (by intro e; injection e with e; exact hcp e))
            have HEN := Lib.hid (fun (w' : World) (hb : w5.drew.grownBy w' (some p)) => Ents.own (own_same H5.out.now (w' := w') fun g hg => hb.block g (R5.out.own.lt (H5.out.on g hg)) (by intro e; injection e with e; exact own_ne (H5.out.on g hg) H5.out.op (by simp) e)))
            have hq0 : q ≤ w5.drew.heap.size := by rw [hq]; exact Nat.le_refl _
            have HQ := Lib.hid hq
            clear hq
            refine wp_region_phase (by kernel_rfl) (by kernel_rfl) (by kernel_rfl) (fun w w' => w.grownBy w' (some p)) (fun _ => World.grownBy.refl _ _) (fun _ _ _ h k => h.trans k) (SDn p q M2.now.length cN AN cs φ2 Pn) (SDn_stays _ _ _ _ _ _ _ _ HPQ.out) (JDn p q M2.now.length cN AN φ2 Pn (fun v => #[v, vs5, .slice AW M2.waits.length cW, .bool pl5, .int .i64 e0, .int .i64 e1, vk5, .int .i64 lf5, .bool M2.dead, .int .i64 M2.ops])) ⟨fun _ => hx, fun e => (by cases e), hq0⟩ ?_ ?_
            · simp only [PhStep]
              refine ⟨?_, ?_, ?_, ?_, ?_, ?_, ?_, ?_, ?_, ?_, trivial⟩
              · intro L V w' hb hj hl hdo hcl hd
                clear hdo hcl
                clear hd
                refine ⟨?_⟩
                simp only [fill]
                go_wp2
                exact ⟨⟨rfl, rfl, World.grownBy.refl _ _, rfl⟩, hj.far (by decide)⟩
              · intro L V w' hb hj hl hdo hcl hd
                clear hdo hcl
                clear hd
                refine ⟨?_⟩
                simp only [fill]
                go_wp2
                exact ⟨⟨rfl, rfl, World.grownBy.refl _ _, rfl⟩, hj.far (by decide)⟩
              · intro L V w' hb hj hl hdo hcl hd
                clear hdo hcl
                simp only [DepFacts, SDn, Region.binds, forall_const, and_true] at hd
                refine ⟨?_⟩
                simp only [fill, hd]
                clear hd
                go_wp2
                exact ⟨⟨rfl, rfl, World.grownBy.refl _ _, rfl⟩, hj.far (by decide)⟩
              · intro L V w' hb hj hl hdo hcl hd
                clear hdo hcl
                simp only [DepFacts, SDn, Region.binds, forall_const, and_true] at hd
                refine ⟨?_⟩
                simp only [fill, hd]
                clear hd
                go_wp2
                exact ⟨⟨rfl, rfl, World.grownBy.refl _ _, rfl⟩, hj.far (by decide)⟩
              · intro L V w' hb hj hl hdo hcl hd
                have h9 : L 9 = false := Bool.eq_false_iff.2 fun e => by have := hcl 6 4 (by kernel_rfl) (hcl 9 6 (by kernel_rfl) e); rw [this] at hl; cases hl
                have yj := (hj.head0 h9).cellv (i := 0) rfl
                clear hdo hcl
                simp only [DepFacts, SDn, Region.binds, forall_const, and_true] at hd
                refine ⟨?_⟩
                simp only [fill, hd]
                clear hd
                go_wp2
                exact ⟨⟨rfl, rfl, World.grownBy.refl _ _, rfl⟩, hj.far (by decide)⟩
              · intro L V w' hb hj hl hdo hcl hd
                have hgc := HGC.out _ hb
                clear hdo hcl
                clear hd
                refine ⟨?_⟩
                simp only [fill]
                simp only [Act.put, List.setIfInBounds_toArray, List.set_cons_zero, List.set_cons_succ]
                go_wp2_with (first | ((with_reducible refine gd_load ?_); refine wpList_load_blk rfl 72 (.tmp 10) rfl hgc (by rw [HCL.out]; exact chgTyA) rfl ?_) | fail)
                exact ⟨⟨rfl, rfl, World.grownBy.refl _ _, rfl⟩, hj.far (by decide)⟩
              · intro L V w' hb hj hl hdo hcl hd
                have hen := HEN.out _ hb
                have h9 : L 9 = false := Bool.eq_false_iff.2 fun e => by have := hcl 9 6 (by kernel_rfl) e; rw [this] at hl; cases hl
                have hq := hj.low
                clear hdo hcl
                simp only [DepFacts, SDn, Region.binds, forall_const, and_true] at hd
                refine ⟨?_⟩
                simp only [fill, hd]
                clear hd
                simp only [Act.put, List.setIfInBounds_toArray, List.set_cons_zero, List.set_cons_succ]
                go_wp2_with (first | (go_at_call 34; (with_reducible refine (HDN.out _ hen).mono ?_); rintro e w3 ⟨v3, rfl, ho2, hb3⟩) | fail)
                exact ⟨⟨rfl, rfl, ⟨hb3.os, hb3.tape, hb3.output, hb3.size, fun k hk _ => hb3.block k hk⟩, own_base ho2 hq⟩, hj.ext h9 hb3⟩
              · intro L V w' hb hj hl hdo hcl hd
                clear hcl
                have d0 : V 0 = .pointer (some ⟨p, 0, none⟩) := by
                  simp only [DepFacts, SDn, Region.binds, forall_const, and_true] at hd
                  first | exact hd.1 | exact hd
                clear hdo hd
                refine ⟨?_⟩
                simp only [fill, d0]
                clear d0
                go_wp2
                exact ⟨⟨rfl, rfl, World.grownBy.refl _ _, rfl⟩, hj.far (by decide)⟩
              · intro L V w' hb hj hl hdo hcl hd
                clear hcl
                have d0 : V 7 = .pointer (some ⟨p, 0, none⟩) := by
                  simp only [DepFacts, SDn, Region.binds, forall_const, and_true] at hd
                  first | exact hd.1 | exact hd
                clear hdo hd
                refine ⟨?_⟩
                simp only [fill, d0]
                clear d0
                go_wp2
                exact ⟨⟨rfl, rfl, World.grownBy.refl _ _, rfl⟩, hj.far (by decide)⟩
              · intro L V w' hb hj hl hdo hcl hd
                have hx := hj.head0 hl
                clear hdo hcl
                have d8 : V 8 = .pointer (some ⟨p, 0, none⟩) := by
                  simp only [DepFacts, SDn, Region.binds, forall_const, and_true] at hd
                  exact hd.1
                have d6 : SDn p q M2.now.length cN AN cs φ2 Pn 6 (V 6) w' := by
                  simp only [DepFacts, Region.binds, forall_const, and_true] at hd
                  exact hd.2.1
                clear hd
                obtain ⟨A6, c6, e6⟩ := row_slC d6
                have d6r : w'.ownsRow q 75 2 (.slice A6 Pn.length c6) Pn.length (erow φ2 Pn) := by rw [← e6]; exact d6
                clear d6
                refine ⟨?_⟩
                simp only [fill, e6, d8]
                clear e6 d8
                simp only [Act.put, List.setIfInBounds_toArray, List.set_cons_zero, List.set_cons_succ]
                go_wp2_with (first | ((with_reducible refine gd_store ?_); refine wpList_store_cell rfl 32 (.tmp 64) (.tmp 62) rfl (i := 0) (v := .slice A6 Pn.length c6) hx (show 0 < 10 by decide) (by kernel_rfl) rfl rfl rfl ?_; intro w3 hx3 hg3) | fail)
                exact ⟨⟨rfl, rfl, hg3, trivial⟩, hj.store hx3 hg3 (own_kept d6r hg3 HPQ.out)⟩
            · intro Lx V w9 hL hb9 hs hj
              obtain ⟨v9, hx9, ho9⟩ := hj.head1 (hL 9 (by decide))
              clear hs hj hL
              simp only [fill]
              try simp only [Exit.then]
              try go_simp
              go_upto_region 8 with (fail)
              have hb59 : w5.grownBy w9 (some p) := ⟨hb9.os, hb9.tape, hb9.output, hb9.size, hb9.block⟩
              have ho5 := R5.out.own
              have hp9 : p < w9.heap.size := hx9.lt
              have st9 : ∀ {b t}, o2 b = some (k, t) → t ≠ .fs → w9.heap[b]? = w5.heap[b]? := fun {b t} e n1 => same_of hb59 (ho5.lt e) e (one_some H5.out.op) n1
              have how9 := own_same H5.out.waits (w' := w9) fun g hg => st9 (H5.out.ow g hg) (by simp)
              have HST9 := Lib.hid (fun (b : Nat) (t : Tag) (e : o2 b = some (k, t)) (n1 : t ≠ .fs) => st9 e n1)
              have hcg9 : Blk w9 w2.heap.size 72 cs.toArray := hx5.grown hb59 (by intro e; injection e with e; exact hcp e)
              obtain ⟨q2, hq2⟩ : ∃ q, q = w9.heap.size := ⟨_, rfl⟩
              have hpq2 : p < q2 := by rw [hq2]; exact hp9
              have HPQ := Lib.hid hpq2
              have hlw : ∀ g, (Value.slice AW M2.waits.length cW).ownBlock = some g → g < q2 := fun g hg => by
                have := ho5.lt (H5.out.ow g hg)
                have := hb59.size
                omega
              have hpr2 : some p ≠ (Value.slice AW M2.waits.length cW).ownBlock := fun e => own_ne H5.out.op (H5.out.ow p e.symm) (by simp) rfl
              have HPR := Lib.hid hpr2
              have hcr : some w2.heap.size ≠ (Value.slice AW M2.waits.length cW).ownBlock := HCR.out
              have HGC := Lib.hid (fun (w' : World) (hb : Wr2 p (Value.slice AW M2.waits.length cW).ownBlock w9.drew w') => (show Blk w9.drew w2.heap.size _ _ from hcg9).wr2 hb hcp hcr)
              have hq20 : q2 ≤ w9.drew.heap.size := by rw [hq2]; exact Nat.le_refl _
              have HQ2 := Lib.hid hq2
              have HLW := Lib.hid hlw
              have HB59 := Lib.hid hb59
              have HO9 := Lib.hid ho9
              have hx9' : Blk w9.drew p 37 _ := hx9
              have how9' := own_drew how9
              clear hq2 hb59 hb9 hcg9 hcr hlw hpr2 ho9 hx st9 hx9 how9
              refine wp_region_phase (by kernel_rfl) (by kernel_rfl) (by kernel_rfl) (Wr2 p (Value.slice AW M2.waits.length cW).ownBlock) Wr2.refl (fun _ _ _ h k => h.trans k) (SWt p q2 M2.waits.length cW AW cs) (SWt_stays p q2 M2.waits.length cW AW cs HPQ.out HLW.out) (JWt p q2 M2.waits.length cW AW cs (crow φ2 M2.waits) (fun v => #[v9, vs5, v, .bool pl5, .int .i64 e0, .int .i64 e1, vk5, .int .i64 lf5, .bool M2.dead, .int .i64 M2.ops])) ⟨fun _ => hx9', fun _ => how9', fun e => (by cases e), fun e => (by cases e), hq20⟩ ?_ ?_
              · simp only [PhStep]
                refine ⟨?_, ?_, ?_, ?_, ?_, ?_, ?_, ?_, ?_, ?_, ?_, trivial⟩
                · intro L V w' hb hj hl hdo hcl hd
                  clear hdo hcl
                  clear hd
                  refine ⟨?_⟩
                  simp only [fill]
                  go_wp2
                  exact ⟨⟨rfl, rfl, Wr2.refl _, rfl⟩, hj.far (by decide) (by decide)⟩
                · intro L V w' hb hj hl hdo hcl hd
                  clear hdo hcl
                  clear hd
                  refine ⟨?_⟩
                  simp only [fill]
                  go_wp2
                  exact ⟨⟨rfl, rfl, Wr2.refl _, rfl⟩, hj.far (by decide) (by decide)⟩
                · intro L V w' hb hj hl hdo hcl hd
                  clear hdo hcl
                  simp only [DepFacts, SWt, Region.binds, forall_const, and_true] at hd
                  refine ⟨?_⟩
                  simp only [fill, hd]
                  clear hd
                  go_wp2
                  exact ⟨⟨rfl, rfl, Wr2.refl _, rfl⟩, hj.far (by decide) (by decide)⟩
                · intro L V w' hb hj hl hdo hcl hd
                  clear hdo hcl
                  simp only [DepFacts, SWt, Region.binds, forall_const, and_true] at hd
                  refine ⟨?_⟩
                  simp only [fill, hd]
                  clear hd
                  go_wp2
                  exact ⟨⟨rfl, rfl, Wr2.refl _, rfl⟩, hj.far (by decide) (by decide)⟩
                · intro L V w' hb hj hl hdo hcl hd
                  have h10 : L 10 = false := Bool.eq_false_iff.2 fun e => by have := hcl 7 4 (by kernel_rfl) (hcl 10 7 (by kernel_rfl) e); rw [this] at hl; cases hl
                  have yj := (hj.head0 h10).cellv (i := 2) rfl
                  clear hdo hcl
                  simp only [DepFacts, SWt, Region.binds, forall_const, and_true] at hd
                  refine ⟨?_⟩
                  simp only [fill, hd]
                  clear hd
                  go_wp2
                  exact ⟨⟨rfl, rfl, Wr2.refl _, rfl⟩, hj.far (by decide) (by decide)⟩
                · intro L V w' hb hj hl hdo hcl hd
                  have hgc := HGC.out _ hb
                  clear hdo hcl
                  clear hd
                  refine ⟨?_⟩
                  simp only [fill]
                  simp only [Act.put, List.setIfInBounds_toArray, List.set_cons_zero, List.set_cons_succ]
                  go_wp2_with (first | ((with_reducible refine gd_load ?_); refine wpList_load_blk rfl 72 (.tmp 10) rfl hgc (by rw [HCL.out]; exact chgTyA) rfl ?_) | fail)
                  exact ⟨⟨rfl, rfl, Wr2.refl _, rfl⟩, hj.far (by decide) (by decide)⟩
                · intro L V w' hb hj hl hdo hcl hd
                  have hq := hj.low
                  clear hdo hcl
                  simp only [DepFacts, SWt, Region.binds, forall_const, and_true] at hd
                  refine ⟨?_⟩
                  simp only [fill, hd]
                  clear hd
                  simp only [Act.put, List.setIfInBounds_toArray, List.set_cons_zero, List.set_cons_succ]
                  go_wp2_with (first | ((with_reducible refine gd_rowC ?_); refine wpList_row_one rfl (.tmp 70) rfl chgTyR (by decide) (cs := cs.toArray) rfl HCL.out ?_; intro w3 hx3 hb3 hl3) | fail)
                  exact ⟨⟨rfl, rfl, Wr2.below hb3, w'.heap.size, rfl, hq, hx3⟩, (hj.ext hb3).far (by decide) (by decide)⟩
                · intro L V w' hb hj hl hdo hcl hd
                  have h10 : L 10 = false := Bool.eq_false_iff.2 fun e => by have := hcl 10 7 (by kernel_rfl) e; rw [this] at hl; cases hl
                  have hr0 := hj.row0 hl
                  clear hdo hcl
                  simp only [DepFacts, SWt, Region.binds, forall_const, and_true] at hd
                  obtain ⟨d4, g6, d6, _, hx6⟩ := hd
                  refine ⟨?_⟩
                  simp only [fill, d4, d6]
                  clear d4 d6
                  simp only [Act.put, List.setIfInBounds_toArray, List.set_cons_zero, List.set_cons_succ]
                  go_wp2_with (first | (at_builtin; refine wpList_append_rd _ rfl (.tmp 69) (.tmp 71) _ rfl 0 _ _ 3 40 chgTyR _ _ _ rfl hr0 (some ⟨g6, 0, none⟩) 1 1 cs rfl (by rw [Nat.one_mul]; exact HCN.out) hx6.rd HC1.out (by unfold maxLen; omega) (by omega) (Nat.zero_le _) ?_; intro v3 w3 ho3 hg3 hat3) | fail)
                  exact ⟨⟨rfl, rfl, Wr2.row hg3, trivial⟩, hj.app h10 ho3 hg3 hat3 HPR.out⟩
                · intro L V w' hb hj hl hdo hcl hd
                  clear hcl
                  have d0 : V 0 = .pointer (some ⟨p, 0, none⟩) := by
                    simp only [DepFacts, SWt, Region.binds, forall_const, and_true] at hd
                    first | exact hd.1 | exact hd
                  clear hdo hd
                  refine ⟨?_⟩
                  simp only [fill, d0]
                  clear d0
                  go_wp2
                  exact ⟨⟨rfl, rfl, Wr2.refl _, rfl⟩, hj.far (by decide) (by decide)⟩
                · intro L V w' hb hj hl hdo hcl hd
                  clear hcl
                  have d0 : V 8 = .pointer (some ⟨p, 0, none⟩) := by
                    simp only [DepFacts, SWt, Region.binds, forall_const, and_true] at hd
                    first | exact hd.1 | exact hd
                  clear hdo hd
                  refine ⟨?_⟩
                  simp only [fill, d0]
                  clear d0
                  go_wp2
                  exact ⟨⟨rfl, rfl, Wr2.refl _, rfl⟩, hj.far (by decide) (by decide)⟩
                · intro L V w' hb hj hl hdo hcl hd
                  have h7 : L 7 = true := hdo 7 (by kernel_rfl)
                  have hx := hj.head0 hl
                  obtain ⟨hr1, hat7⟩ := hj.row1 h7
                  clear hdo hcl
                  have d9 : V 9 = .pointer (some ⟨p, 2, none⟩) := by
                    simp only [DepFacts, SWt, Region.binds, forall_const, and_true] at hd
                    exact hd.1
                  clear hd
                  have hp7 : (V 7).ownBlock ≠ some p := by
                    intro e
                    rcases hat7 with h | ⟨g, h, hq⟩
                    · exact HPR.out (e.symm.trans h)
                    · rw [h] at e; injection e with e; have := HPQ.out; omega
                  have h71 := own_one hr1
                  refine ⟨?_⟩
                  simp only [fill, d9]
                  clear d9
                  simp only [Act.put, List.setIfInBounds_toArray, List.set_cons_zero, List.set_cons_succ]
                  go_wp2_with (first | ((with_reducible refine gd_store ?_); refine wpList_store_cell rfl 33 (.tmp 74) (.tmp 72) rfl (i := 2) (v := V 7) hx (show 2 < 10 by decide) (by kernel_rfl) h71 rfl rfl ?_; intro w3 hx3 hg3) | fail)
                  exact ⟨⟨rfl, rfl, Wr2.put hg3, trivial⟩, hj.store h7 hx3 hg3 hp7⟩
              · intro Lx V w10 hL hb10 hs hj
                obtain ⟨hr10, hat10⟩ := hj.row1 (hL 7 (by decide))
                have hx10 := hj.head1 (hL 10 (by decide))
                clear hs hj hL
                generalize V 7 = v10 at hr10 hat10 hx10
                simp only [fill]
                try simp only [Exit.then]
                try go_simp
                have ho5 := R5.out.own
                have s59 := HB59.out.size
                have s910 : w9.heap.size ≤ w10.heap.size := hb10.size
                have hq5 := HQ.out
                have hq9 := HQ2.out
                have hrl : ∀ g, (Value.slice AW M2.waits.length cW).ownBlock = some g → g < w5.heap.size := fun g hg => ho5.lt (H5.out.ow g hg)
                have T59 : Turn k o2 o2 w5 w9 := Turn.wrote ho5 HB59.out H5.out.op
                obtain ⟨oA, a1, a2, a3, a4⟩ : ∃ o' : Own, (∀ b, b < w5.heap.size → o' b = o2 b) ∧ OwnIn o' w9 ∧ (∀ g, v9.ownBlock = some g → o' g = some (k, .now)) ∧ Turn k o2 o' w5 w9 := by
                  cases hv : v9.ownBlock with
                  | none => exact ⟨o2, fun _ _ => rfl, ho5.more s59, fun g hg => (by cases hg), T59⟩
                  | some g =>
                    have hlt := HO9.out.lt g hv
                    refine ⟨give o2 g (k, .now), fun b hb => give_ne (by omega), (ho5.more s59).give hlt.2 _, fun g' hg => ?_, T59.give (by omega) _⟩
                    injection hg with hg
                    subst hg
                    exact give_same _ _ _
                have exA : ∀ {b : Nat} {x : Nat × Tag}, o2 b = some x → oA b = some x := fun e => by rw [a1 _ (ho5.lt e)]; exact e
                have T910 : Turn k oA oA w9 w10 := ⟨hb10.os, hb10.tape, hb10.output, hb10.size, fun b hb hn => hb10.block b hb (fun e => hn .fs (by rw [e]; exact exA H5.out.op)) (fun e => hn .waits (exA (H5.out.ow b e.symm))), fun _ _ => rfl, fun b hb => .inl (a2 b hb)⟩
                obtain ⟨oB, b1, b2, b3, b4⟩ : ∃ o' : Own, (∀ b, b < w9.heap.size → o' b = oA b) ∧ OwnIn o' w10 ∧ (∀ g, v10.ownBlock = some g → o' g = some (k, .waits)) ∧ Turn k oA o' w9 w10 := by
                  rcases hat10 with h | ⟨g, h, hg⟩
                  · exact ⟨oA, fun _ _ => rfl, a2.more s910, fun g hg => exA (H5.out.ow g (h ▸ hg)), T910⟩
                  · have hlt := hr10.lt g h
                    refine ⟨give oA g (k, .waits), fun b hb => give_ne (by omega), (a2.more s910).give hlt.2 _, fun g' hg' => ?_, T910.give (by omega) _⟩
                    rw [h] at hg'
                    injection hg' with hg'
                    subst hg'
                    exact give_same _ _ _
                have exB : ∀ {b : Nat} {x : Nat × Tag}, oA b = some x → oB b = some x := fun e => by rw [b1 _ (a2.lt e)]; exact e
                have st10 : ∀ {b : Nat} {t : Tag}, o2 b = some (k, t) → t ≠ .fs → t ≠ .waits → w10.heap[b]? = w5.heap[b]? := fun {b t} e n1 n2 => by
                  have hb := ho5.lt e
                  refine (hb10.block b (show b < w9.heap.size by omega) (own_ne e H5.out.op (by simpa using n1)) fun e2 => own_ne e (H5.out.ow b e2.symm) (by simpa using n2) rfl).trans (HST9.out b t e n1)
                have hv9 : w10.ownsRow 0 75 2 v9 Pn.length (erow φ2 Pn) := own_base (own_same HO9.out fun g hg => by
                  have hlt := HO9.out.lt g hg
                  refine hb10.block g hlt.2 (by have := HPW.out; omega) fun e => ?_
                  have := hrl g e.symm
                  omega) (Nat.zero_le _)
                have hcw : (waitM M2 (.ren n m i)).waits = M2.waits ++ [.ren n m i] := rfl
                have hh10 : HeadR k p (waitM M2 (.ren n m i)) φ2 oB w10 v9 vs5 v10 vk5 pl5 e0 e1 lf5 := by
                  refine ⟨hx10, exB (exA H5.out.op), ?_, fun g hg => exB (a3 g hg), own_same H5.out.syn fun g hg => st10 (H5.out.os g hg) (by simp) (by simp), fun g hg => exB (exA (H5.out.os g hg)), ?_, b3, H5.out.plan, fun h0 => ?_⟩
                  · show w10.ownsRow 0 _ 2 v9 (doC M2.now (.ren n m i)).length (erow φ2 (doC M2.now (.ren n m i)))
                    rw [← HPN.out]
                    exact hv9
                  · rw [hcw, crow_snoc, List.length_append, ← HCS.out]
                    exact hr10
                  · obtain ⟨u1, u2, u3, u4⟩ := H5.out.left h0
                    exact ⟨u1, u2, own_same u3 fun g hg => st10 (u4 g hg) (by simp) (by simp), fun g hg => exB (exA (u4 g hg))⟩
                have h10 : RelR k p (waitM M2 (.ren n m i)) φ2 oB (K + 2) L w10 := by
                  refine ⟨R5.out.fine.wait HCG.out fun n' i e => ?_, b2, ⟨v9, vs5, v10, vk5, pl5, e0, e1, lf5, hh10⟩, fun i hi => ?_, ⟨R5.out.ops.1, by have := R5.out.ops.2; show M2.ops ≤ ((K + 2 : Nat) : Int); omega⟩, R5.out.cut, R5.out.opb, ?_⟩
                  · cases e
                  · rcases live_wait HCG.out hi with h1 | ⟨n', e⟩
                    · exact ⟨(R5.out.file i h1).1.mono (fun e ht => st10 e (by rcases ht with rfl | rfl <;> simp) (by rcases ht with rfl | rfl <;> simp)) (fun e => exB (exA e)), (R5.out.file i h1).2⟩
                    · cases e
                  · rw [hcw, List.length_append]
                    show M2.syn.length + (M2.waits.length + 1) ≤ K + 2
                    have := R5.out.size
                    omega
                have T10 := (T5'.out.trans a4).trans b4
                go_wp2
                go_ret
                refine ⟨by rw [HNMB.out]; unfold goesB; rw [HF.out]; rfl, oB, φ2, ?_, T10⟩
                unfold renM
                rw [thenM_go HOK.out HF.out, ren1, if_neg HNE.out, ← HM2.out, HGM.out]
                exact h10
        · have HF := Lib.hid hf
          clear hb hh h hg hf CO0 hm0 hnm
          go_enter Try.func41, Try.ntmps41
          go_wp2_with (first
            | (go_at_call 32; (with_reducible refine CF.out.mono ?_); rintro e w1 ⟨kx, he, PL, hb1⟩; rw [HG.out] at he; have he2 : e = .returned (.tuple #[.int .i64 (kx : Nat), .bool true]) := he; clear he; subst he2; have HB1 := hb1; have hx1 := hx.ext hb1; have y8 := hx1.cellv (i := 8) rfl)
            | (go_at_call 33; (with_reducible refine (CO.out.at_ _ HB1).mono ?_); rintro e w2 ⟨he, o2, φ2, h2, T2⟩; rw [HF.out] at he; have he3 : e = .returned (.bool false) := he; clear he; subst he3)
            | fail)
          go_ret
          unfold renM
          rw [thenM_off HOK.out HF.out]
          exact ⟨by rw [HNMB.out]; unfold goesB; rw [HF.out]; rfl, o2, φ2, h2.more (by omega) (Nat.le_refl _), (Turn.below HR.out.own HB1).trans T2⟩
end
end Go.Mun

namespace Go.Mun
open Go Go.RowKit Go.ChangeShapes Go.WideShapes Go.ChangeAt Go.Proofs Go.Maps

structure ActF where
  way : Int
  a : Ky
  t : Ky
  b : List UInt8
  op : Int
  cut : Int
  keep : List Bool
def actFC (x : ActF) (vb vk : Value) : List Value := [.int .i64 x.way, .string ⟨x.a.toArray⟩, .string ⟨x.t.toArray⟩, vb, .int .i64 x.op, .int .i64 x.cut, vk]
structure ActOk (x : ActF) : Prop where
  w1 : -9223372036854775808 ≤ x.way
  w2 : x.way ≤ 9223372036854775807
  o1 : -9223372036854775808 ≤ x.op
  o2 : x.op ≤ 9223372036854775807
  c1 : -9223372036854775808 ≤ x.cut
  c2 : x.cut ≤ 9223372036854775807
  a : x.a.length ≤ maxLen
  t : x.t.length ≤ maxLen
def rActF : Reader ActF := fun w cs x => cs.length = 7 → ∃ vb vk, cs = actFC x vb vk ∧ ActOk x ∧ Bytes w vb x.b ∧ Bools w vk x.keep
theorem bd_i64 {x : Int} (h : (Lit.int .i64 x).wf = true) : -9223372036854775808 ≤ x ∧ x ≤ 9223372036854775807 := by
  unfold Lit.wf at h
  exact ⟨of_decide_eq_true (Bool.and_eq_true_iff.1 h).1, of_decide_eq_true (Bool.and_eq_true_iff.1 h).2⟩
set_option maxRecDepth 100000 in
theorem opens_actF {H : Type} (enc : TypeId × Value → H) : Opens enc Try.prog 0 (fun _ => true) true 51 rActF := by
  intro w fuel cs x hx
  obtain ⟨n0, y0, h0⟩ := trod_at Try.underlying51 hx 0 rfl (e := 3) (off := 0) (size := 1) rfl rfl (by kernel_rfl)
  obtain ⟨n1, y1, h1⟩ := trod_at Try.underlying51 hx 1 rfl (e := 9) (off := 1) (size := 1) rfl rfl (by kernel_rfl)
  obtain ⟨n2, y2, h2⟩ := trod_at Try.underlying51 hx 2 rfl (e := 9) (off := 2) (size := 1) rfl rfl (by kernel_rfl)
  obtain ⟨n3, y3, h3⟩ := trod_at Try.underlying51 hx 3 rfl (e := 26) (off := 3) (size := 1) rfl rfl (by kernel_rfl)
  obtain ⟨n4, y4, h4⟩ := trod_at Try.underlying51 hx 4 rfl (e := 35) (off := 4) (size := 3) rfl rfl (by kernel_rfl)
  obtain ⟨n5, y5, h5⟩ := trod_at Try.underlying35 h4 0 rfl (e := 3) (off := 0) (size := 1) rfl rfl (by kernel_rfl)
  obtain ⟨n6, y6, h6⟩ := trod_at Try.underlying35 h4 1 rfl (e := 3) (off := 1) (size := 1) rfl rfl (by kernel_rfl)
  obtain ⟨n7, y7, h7⟩ := trod_at Try.underlying35 h4 2 rfl (e := 30) (off := 2) (size := 1) rfl rfl (by kernel_rfl)
  obtain ⟨way, e0, b0⟩ := opens_int enc 0 (fun _ => true) true Try.underlying3 w n0 _ y0 h0
  obtain ⟨a, e1, b1⟩ := opens_str enc 0 (fun _ => true) true Try.underlying9 w n1 _ y1 h1
  obtain ⟨t, e2, b2⟩ := opens_str enc 0 (fun _ => true) true Try.underlying9 w n2 _ y2 h2
  obtain ⟨b, vb, e3, b3⟩ := opens_bytes enc 0 (fun _ => true) true Try.underlying26 Try.underlying5 (by kernel_rfl) w n3 _ y3 h3
  obtain ⟨op, e5, b5⟩ := opens_int enc 0 (fun _ => true) true Try.underlying3 w n5 _ y5 h5
  obtain ⟨cut, e6, b6⟩ := opens_int enc 0 (fun _ => true) true Try.underlying3 w n6 _ y6 h6
  obtain ⟨keep, vk, e7, b7⟩ := opens_slice enc 0 (fun _ => true) true Try.underlying30 (by kernel_rfl) (opens_bool enc 0 (fun _ => true) true Try.underlying4) w n7 _ y7 h7
  refine ⟨⟨way, a, t, b, op, cut, keep⟩, fun hl => ⟨vb, vk, ?_, ⟨(bd_i64 b0).1, (bd_i64 b0).2, (bd_i64 b5).1, (bd_i64 b5).2, (bd_i64 b6).1, (bd_i64 b6).2, b1, b2⟩, b3, Bools.of_slice b7⟩⟩
  match cs, hl with
  | [a0, a1, a2, a3, a4, a5, a6], _ =>
    simp at e0 e1 e2 e3 e5 e6 e7
    subst e0 e1 e2 e3 e5 e6 e7
    rfl
theorem add_next (ad : Addr) (k : Nat) {j : Nat} (hj : 0 < j) : ad.add (k + j) = ⟨(ad.add k).block, (ad.add k).off + j, none⟩ := by
  rw [← Addr.add_add]
  obtain ⟨b, o, m⟩ := ad.add k
  unfold Addr.add
  rw [if_neg (by omega)]
/-- an act of a row -/
theorem actF_at {w w' : World} {A : Option Addr} {n : Nat} {xs : List Value} {acts : List ActF} (hr : Rd w' A xs) (hl : acts.length = n) (hx : xs.length = n * 7) (hb : ∀ i (h : i < acts.length), rActF w (chunk xs 7 i) acts[i]) {k : Nat} (hk : k < n) :
    ∃ (ad : Addr) (a : ActF) (vb vk : Value), A = some ad ∧ w'.cell? (ad.add (k * 7)) = some (.int .i64 a.way) ∧ w'.cell? ⟨(ad.add (k * 7)).block, (ad.add (k * 7)).off + 1, none⟩ = some (.string ⟨a.a.toArray⟩) ∧ w'.cell? ⟨(ad.add (k * 7)).block, (ad.add (k * 7)).off + 2, none⟩ = some (.string ⟨a.t.toArray⟩) ∧
      w'.cell? ⟨(ad.add (k * 7)).block, (ad.add (k * 7)).off + 3, none⟩ = some vb ∧ w'.cell? ⟨(ad.add (k * 7)).block, (ad.add (k * 7)).off + 4, none⟩ = some (.int .i64 a.op) ∧ w'.cell? ⟨(ad.add (k * 7)).block, (ad.add (k * 7)).off + 5, none⟩ = some (.int .i64 a.cut) ∧ w'.cell? ⟨(ad.add (k * 7)).block, (ad.add (k * 7)).off + 6, none⟩ = some vk ∧
      ActOk a ∧ Bytes w vb a.b ∧ Bools w vk a.keep := by
  have hc : (chunk xs 7 k).length = 7 := by unfold chunk; rw [List.length_take, List.length_drop]; omega
  obtain ⟨vb, vk, e, h1, h2, h3⟩ := hb k (by omega) hc
  have hg : ∀ j, j < 7 → xs[k * 7 + j]? = (chunk xs 7 k)[j]? := fun j hj => by
    unfold chunk
    rw [List.getElem?_take, if_pos hj, List.getElem?_drop]
  obtain ⟨ad, rfl, c0⟩ := hr (k * 7) _ (by have := hg 0 (by omega); rw [Nat.add_zero] at this; rw [this, e]; rfl)
  have hcj : ∀ j u, 0 < j → j < 7 → (actFC acts[k] vb vk)[j]? = some u → w'.cell? ⟨(ad.add (k * 7)).block, (ad.add (k * 7)).off + j, none⟩ = some u := fun j u h0 hj hu => by
    obtain ⟨ad', e1, c1⟩ := hr (k * 7 + j) u (by rw [hg j hj, e]; exact hu)
    injection e1 with e1
    subst e1
    rwa [add_next _ _ h0] at c1
  exact ⟨ad, acts[k], vb, vk, rfl, c0, hcj 1 _ (by omega) (by omega) rfl, hcj 2 _ (by omega) (by omega) rfl, hcj 3 _ (by omega) (by omega) rfl, hcj 4 _ (by omega) (by omega) rfl, hcj 5 _ (by omega) (by omega) rfl, hcj 6 _ (by omega) (by omega) rfl, h1, h2, h3⟩
/-! ### the reference's calls -/
section
variable {k p : Nat} {M : FSs} {o o' : Own} {K L : Nat} {w0 w w' : World}
theorem RpApp_in (h : RfIn k p M o K L w0 w) (n : Ky) (va : Value) (l : List UInt8) (hv : Bytes w va l) (hvf : Free o k va) (hl : l.length ≤ 1000000000) (hK : K ≤ 100000) (hL : L ≤ 1000000000) :
    Calls Try.prog 12 #[.pointer (some ⟨p, 0, none⟩), .string ⟨n.toArray⟩, va] w fun e w' => e = .returned (.bool (goesB M (appOk M n))) ∧ ∃ o', RfIn k p (appM M n l) o' (K + 2) (L + l.length) w0 w' ∧ Turn k o o' w w' := by
  obtain ⟨φ, hr⟩ := h.rel
  exact (AppendR_any hr n va l hv hvf hl hL hK (OpAny.any hr hK hL)).mono fun e w' ⟨h1, o', φ', h2, h3⟩ => ⟨h1, o', h.to ⟨φ', h2⟩ h3, h3⟩
theorem RpSync_in (h : RfIn k p M o K L w0 w) (n : Ky) (hK : K ≤ 100000) (hL : L ≤ 1000000000) :
    Calls Try.prog 14 #[.pointer (some ⟨p, 0, none⟩), .string ⟨n.toArray⟩] w fun e w' => e = .returned (.bool (goesB M (isB M n))) ∧ ∃ o', RfIn k p (syncM M n) o' (K + 2) L w0 w' ∧ Turn k o o' w w' := by
  obtain ⟨φ, hr⟩ := h.rel
  exact (SyncR_any hr n (OpAny.any hr hK hL)).mono fun e w' ⟨h1, o', φ', h2, h3⟩ => ⟨h1, o', h.to ⟨φ', h2⟩ h3, h3⟩
theorem RpDir_in (h : RfIn k p M o K L w0 w) (hK : K ≤ 100000) (hL : L ≤ 1000000000) :
    Calls Try.prog 16 #[.pointer (some ⟨p, 0, none⟩)] w fun e w' => e = .returned (.bool (goesB M (!M.dead))) ∧ ∃ o', RfIn k p (dirM M) o' (K + 2) L w0 w' ∧ Turn k o o' w w' := by
  obtain ⟨φ, hr⟩ := h.rel
  exact (SyncDirR_any hr (OpAny.any hr hK hL)).mono fun e w' ⟨h1, o', φ', h2, h3⟩ => ⟨h1, o', h.to ⟨φ', h2⟩ h3, h3⟩
theorem RpDel_in (h : RfIn k p M o K L w0 w) (n : Ky) (hK : K ≤ 100000) (hL : L ≤ 1000000000) :
    Calls Try.prog 42 #[.pointer (some ⟨p, 0, none⟩), .string ⟨n.toArray⟩] w fun e w' => e = .returned (.bool (goesB M (isB M n))) ∧ ∃ o', RfIn k p (delM M n) o' (K + 2) L w0 w' ∧ Turn k o o' w w' := by
  obtain ⟨φ, hr⟩ := h.rel
  exact (DelR_any hr n (OpAny.any hr hK hL) hK).mono fun e w' ⟨h1, o', φ', h2, h3⟩ => ⟨h1, o', h.to ⟨φ', h2⟩ h3, h3⟩
theorem RpRen_in (h : RfIn k p M o K L w0 w) (a b : Ky) (hK : K ≤ 100000) (hL : L ≤ 1000000000) :
    Calls Try.prog 41 #[.pointer (some ⟨p, 0, none⟩), .string ⟨a.toArray⟩, .string ⟨b.toArray⟩] w fun e w' => e = .returned (.bool (goesB M (isB M a && namedB b))) ∧ ∃ o', RfIn k p (renM M a b) o' (K + 2) L w0 w' ∧ Turn k o o' w w' := by
  obtain ⟨φ, hr⟩ := h.rel
  exact (RenR_any hr a b (OpAny.any hr hK hL) hK).mono fun e w' ⟨h1, o', φ', h2, h3⟩ => ⟨h1, o', h.to ⟨φ', h2⟩ h3, h3⟩
theorem RpPlan_in (h : RfIn k p M o K L w0 w) (op cut : Int) (kv : Value) (keep : List Bool) (hop : -9223372036854775808 ≤ op ∧ op ≤ 9223372036854775807) (hcut : -9223372036854775808 ≤ cut ∧ cut ≤ 9223372036854775807) (hk : Bools w kv keep) (hko : Free o k kv) (hl : keep.length ≤ 140737488355328) :
    Calls Try.prog 43 #[.pointer (some ⟨p, 0, none⟩), .agg #[.int .i64 op, .int .i64 cut, kv]] w fun e w' => e = .returned (.tuple #[]) ∧ ∃ o', RfIn k p (planM M op cut keep) o' K L w0 w' ∧ Turn k o o' w w' := by
  obtain ⟨φ, hr⟩ := h.rel
  exact (PlanR_any hr op cut kv keep hop hcut hk hko hl).mono fun e w' ⟨h1, o', h2, h3⟩ => ⟨h1, o', h.to ⟨φ, h2⟩ h3, h3⟩
theorem RpStart_in (h : RfIn k p M o K L w0 w) :
    Calls Try.prog 44 #[.pointer (some ⟨p, 0, none⟩)] w fun e w' => e = .returned (.tuple #[]) ∧ RfIn k p (startM M) o K L w0 w' ∧ Turn k o o w w' := by
  obtain ⟨φ, hr⟩ := h.rel
  exact (StartR_any hr).mono fun e w' ⟨h1, h2, h3⟩ => ⟨h1, h.to ⟨φ, h2⟩ h3, h3⟩
end
/-! ### a region with two calls, one behind the other -/
structure J2 (c1 c2 : Nat) (A B C : World → Prop) (L : Nat → Bool) (_V : Nat → Value) (w : World) : Prop where
  a : L c1 = false → A w
  b : L c1 = true → L c2 = false → B w
  c : L c2 = true → C w
section
variable {c1 c2 : Nat} {A B C : World → Prop} {L : Nat → Bool} {V : Nat → Value} {w w' : World}
theorem J2.far (h : J2 c1 c2 A B C L V w) {k : Nat} {v : Value} (h1 : c1 ≠ k) (h2 : c2 ≠ k) : J2 c1 c2 A B C (updL L k) (upd V k v) w :=
  ⟨fun e => h.a (by rwa [updL_ne h1] at e), fun e1 e2 => h.b (by rwa [updL_ne h1] at e1) (by rwa [updL_ne h2] at e2), fun e => h.c (by rwa [updL_ne h2] at e)⟩
theorem J2.one (hne : c1 ≠ c2) (h2 : L c2 = false) {v : Value} (hB : B w') : J2 c1 c2 A B C (updL L c1) (upd V c1 v) w' :=
  ⟨fun e => (by rw [updL_same] at e; cases e), fun _ _ => hB, fun e => (by rw [updL_ne hne.symm, h2] at e; cases e)⟩
theorem J2.two (hne : c1 ≠ c2) (h1 : L c1 = true) {v : Value} (hC : C w') : J2 c1 c2 A B C (updL L c2) (upd V c2 v) w' :=
  ⟨fun e => (by rw [updL_ne hne, h1] at e; cases e), fun _ e => (by rw [updL_same] at e; cases e), fun _ => hC⟩
theorem J2.blk (h : J2 c1 c2 A B C L V w) {g : Nat} {t : TypeId} {cs : Array Value} (hA : ∀ w, A w → Blk w g t cs) (hB : ∀ w, B w → Blk w g t cs) (hC : ∀ w, C w → Blk w g t cs) : Blk w g t cs := by
  cases e1 : L c2
  · cases e2 : L c1
    · exact hA _ (h.a e2)
    · exact hB _ (h.b e2 e1)
  · exact hC _ (h.c e1)
end
end Go.Mun

namespace Go.Mun
open Go Go.RowKit Go.Proofs Go.Maps

theorem FsIn.drewN {k p : Nat} {M : FSs} {o : Own} {K L : Nat} {w0 w : World} (h : FsIn k p M o K L w0 w) (q : Nat) : FsIn k p M o K L w0 (w.drewN q) := h.ext (below_drewN (Below.refl _ _) q)
theorem RfIn.drewN {k p : Nat} {M : FSs} {o : Own} {K L : Nat} {w0 w : World} (h : RfIn k p M o K L w0 w) (q : Nat) : RfIn k p M o K L w0 (w.drewN q) := h.ext (below_drewN (Below.refl _ _) q)
theorem names_isB {M : FSs} {n : Ky} (hr : Rises M.now) (h : n ∈ namesM M) : isB M n = true := by
  unfold namesM at h
  cases hd : M.dead
  · rw [hd] at h
    obtain ⟨q, hq, rfl⟩ := List.mem_map.1 h
    unfold isB
    rw [hd, getP_at hr hq]
    rfl
  · rw [hd] at h
    cases h
theorem RfIn.nowlen {k p : Nat} {M : FSs} {o : Own} {K L : Nat} {w0 w : World} (h : RfIn k p M o K L w0 w) : M.now.length ≤ K := by obtain ⟨φ, hr⟩ := h.rel; exact hr.nowlen
theorem RfIn.names {k p : Nat} {M : FSs} {o : Own} {K L : Nat} {w0 w : World} (h : RfIn k p M o K L w0 w) {n : Ky} (hn : n ∈ namesM M) : n.length ≤ 100 := by
  unfold namesM at hn
  cases hd : M.dead
  · rw [hd] at hn
    obtain ⟨q, hq, rfl⟩ := List.mem_map.1 hn
    exact (h.fine.names q hq).2
  · rw [hd] at hn
    cases hn
theorem RfIn.head {k p : Nat} {M : FSs} {o : Own} {K L : Nat} {w0 w : World} (h : RfIn k p M o K L w0 w) : w.cell? ⟨p, 8, none⟩ = some (.bool M.dead) ∧ w.cell? ⟨p, 9, none⟩ = some (.int .i64 M.ops) := by
  obtain ⟨φ, hr⟩ := h.rel
  obtain ⟨vn, vs, vw, vk, pl, c0, c1, lf, hh⟩ := hr.head
  exact ⟨hh.blk.cellv (i := 8) rfl, hh.blk.cellv (i := 9) rfl⟩
theorem Dead_q {k p : Nat} {M : FSs} {o : Own} {K L : Nat} {w0 w : World} (h : FsIn k p M o K L w0 w) : Calls Try.prog 26 #[.pointer (some ⟨p, 0, none⟩)] w fun e w' => e = .returned (.bool M.dead) ∧ w' = w := (Dead_in h).mono fun _ _ ⟨e, h⟩ => ⟨e, h.symm⟩
theorem Ops_q {k p : Nat} {M : FSs} {o : Own} {K L : Nat} {w0 w : World} (h : FsIn k p M o K L w0 w) : Calls Try.prog 23 #[.pointer (some ⟨p, 0, none⟩)] w fun e w' => e = .returned (.int .i64 M.ops) ∧ w' = w := (Ops_in h).mono fun _ _ ⟨e, h⟩ => ⟨e, h.symm⟩
set_option maxRecDepth 100000 in
set_option maxHeartbeats 4000000 in
theorem same_any {p r : Nat} {M : FSs} {o : Own} {K L : Nat} {w0 w : World} (hF : FsIn 0 p M o K L w0 w) (hR : RfIn 1 r M o K L w0 w) (hK : K ≤ 100000) (hL : L ≤ 1000000000) :
    Calls Try.prog 28 #[.pointer (some ⟨p, 0, none⟩), .pointer (some ⟨r, 0, none⟩)] w fun e w' => e = .returned (.bool true) ∧ Below w.heap.size w w' := by
  have hnl := hR.nowlen
  have hfine := hR.fine
  have HNB := Lib.hid (fun (n : Ky) (hn : n ∈ namesM M) => And.intro (names_isB hfine.rnow hn) (hR.names hn))
  have hbT := bytesTyC
  obtain ⟨N, hN⟩ : ∃ x, x = (namesM M).length := ⟨_, rfl⟩
  have HN := Lib.hid hN
  have hNb : N ≤ 100000 := by
    have h1 : (namesM M).length ≤ M.now.length := by
      unfold namesM
      split
      · exact Nat.zero_le _
      · rw [List.length_map]; exact Nat.le_refl _
    omega
  clear hN hfine
  go_enter Try.func28, Try.ntmps28
  go_upto_region 3 with (first
    | (go_at_call 22; (with_reducible refine (Names_in hF (by omega)).mono ?_); rintro e w1 ⟨v1, rfl, ho1, hb1, h1⟩; rw [← HN.out] at ho1; obtain ⟨A5, c5, rfl⟩ := row_slC ho1; have R1 := hR.ext hb1; clear hF hR)
    | (go_at_call 17; (with_reducible refine (RfNames_in R1 (by omega)).mono ?_); rintro e w2 ⟨v2, rfl, ho2, hb2, R2⟩; rw [← HN.out] at ho2; obtain ⟨A6, c6, rfl⟩ := row_slC ho2; have h2 := h1.ext hb2; have ho3 := own_ext ho1 hb2; have hB2 := below_step hb1 hb2; clear h1 R1 ho1)
    | fail)
  generalize w1.heap.size = B6 at ho2
  generalize hB5 : w.heap.size = B5 at ho3
  obtain ⟨y8, y9⟩ := R2.head
  have e1 : ((N : Int) != (N : Int)) = false := by simp
  have e2 : (M.dead != M.dead) = false := by simp
  have e3 : (M.ops != M.ops) = false := by simp
  go_quiet (first
    | (go_at_call 26; exact Calls.quiet_of_same (Dead_q (h2.drewN _)))
    | (go_at_call 23; exact Calls.quiet_of_same (Ops_q (h2.drewN _))))
  have h4 := h2.drewN nq
  have R4 := R2.drewN nq
  have ho5 := own_drewN ho3 nq
  have ho6 := own_drewN ho2 nq
  have hB4 : Below w.heap.size w (w2.drewN nq) := by rw [hB5]; exact below_drewN (by rw [← hB5]; exact hB2) nq
  generalize w2.drewN nq = w4 at h4 R4 ho5 ho6 hB4 ⊢
  clear h2 R2 ho3 ho2 hB2 y8 y9 hb1 hb2
  go_wp2_with fail
  go_loopw [7] (fun iv wr => ∃ i : Nat, i ≤ N ∧ iv = .int .i64 (i : Nat) ∧ FsIn 0 p M o K L w0 wr ∧ RfIn 1 r M o K L w0 wr ∧ wr.ownsRow B5 9 1 (.slice A5 N c5) N ((namesM M).map strV) ∧ wr.ownsRow B6 9 1 (.slice A6 N c6) N ((namesM M).map strV) ∧ Below w.heap.size w wr) (fun iv _ => N - (RowKit.intOf iv).toNat)
  case atStart => exact ⟨0, Nat.zero_le _, rfl, h4, R4, ho5, ho6, hB4⟩
  case round =>
    clear h4 R4 ho5 ho6 hB4
    obtain ⟨i, hi, rfl, hF, hR, ho5, ho6, hB⟩ := hrel
    by_cases hlt : i < N
    · have f1 : decide ((i : Int) < (N : Int)) = true := decide_eq_true (by omega)
      have i1 := Int.natCast_nonneg i
      have i2 : (i : Int) < (N : Int) := by omega
      obtain ⟨ad5, x, rfl, hx, hc5⟩ := (Strs.own (l := namesM M) HN.out.symm ho5).at_ (i := i) hlt
      obtain ⟨ad6, x', rfl, hx', hc6⟩ := (Strs.own (l := namesM M) HN.out.symm ho6).at_ (i := i) hlt
      have exx : x' = x := by rw [hx] at hx'; injection hx' with hx'; exact hx'.symm
      subst exx
      obtain ⟨hib, hxl⟩ := HNB.out x' (List.mem_of_getElem? hx)
      have HIB := Lib.hid hib
      have HB := Lib.hid hB
      have HO5 := Lib.hid ho5
      have HO6 := Lib.hid ho6
      clear hx hx' hib ho5 ho6 hB
      go_upto_region 10 with (first
        | (go_at_call 21; (with_reducible refine (Read_in hF x' (by omega) (by omega)).mono ?_); rintro e w5 ⟨v5, he, hr5, hb5, h5⟩; rw [HIB.out] at he; subst he; obtain ⟨A7, c7, rfl⟩ := row_slC hr5; have R5 := hR.ext hb5; have hc62 := cell_ext hb5 hc6; clear hF hR)
        | (go_at_call 18; (with_reducible refine (RfRead_in R5 x' (by omega)).mono ?_); rintro e w6 ⟨v6, he, hr6, hb6, R6⟩; rw [HIB.out] at he; subst he; obtain ⟨A8, c8, rfl⟩ := row_slC hr6; have h6 := h5.ext hb6; have hr56 := own_ext hr5 hb6; have hb7 := below_step hb5 hb6; have hc53 := cell_ext hb7 hc5; have hc63 := cell_ext hb6 hc62; clear h5 R5 hr5)
        | fail)
      obtain ⟨rl, hrl⟩ : ∃ x, x = readM M x' := ⟨_, rfl⟩
      rw [← hrl] at hr6 hr56
      simp only [← hrl]
      have q3 := fun m => run_str (P := Try.prog) (src := 26) (dst := 9) (Bytes_drewN (Bytes.own hr56) m) u8sTy u8Ty Try.underlying9
      have q4 := fun m => run_str (P := Try.prog) (src := 26) (dst := 9) (Bytes_drewN (Bytes.own hr6) m) u8sTy u8Ty Try.underlying9
      have s1 : ((⟨x'.toArray⟩ : ByteArray) != ⟨x'.toArray⟩) = false := by rw [str_ne]; simp
      have s2 : ((⟨rl.toArray⟩ : ByteArray) != ⟨rl.toArray⟩) = false := by rw [str_ne]; simp
      clear hc62 hc5 hc6 hrl
      go_quiet (fail)
      have hbd := below_step hb7 (below_drewN (Below.refl w6.heap.size w6) nq)
      have h7 := h6.drewN nq
      have R7 := R6.drewN nq
      have o5 := own_ext HO5.out hbd
      have o6 := own_ext HO6.out hbd
      have hB7 := below_step HB.out hbd
      generalize w6.drewN nq = w7 at h7 R7 o5 o6 hB7 ⊢
      clear h6 R6 hbd hc53 hc63 hr6 hr56 q3 q4 hb5 hb6 hb7
      go_wp2
      go_roundw
      case rel => first | exact ⟨i + 1, by omega, by go_num, h7, R7, o5, o6, hB7⟩ | ((repeat apply Exists.intro); exact ⟨⟨i + 1, by omega, by go_num, h7, R7, o5, o6, hB7⟩, rfl⟩)
      case measure => simp [RowKit.intOf]; omega
    · obtain rfl : i = N := by omega
      have f1 : decide ((i : Int) < (i : Int)) = false := decide_eq_false (by omega)
      go_wp2
      go_ret
      exact ⟨rfl, hB⟩
end Go.Mun

namespace Go.Mun
open Go Go.RowKit Go.Proofs Go.Maps

/-- a block that is nobody's -/
structure LoneB (o : Own) (w : World) (g : Nat) (t : TypeId) (cs : Array Value) : Prop where
  blk : Blk w g t cs
  none : o g = none
theorem LoneB.turn {k : Nat} {o o' : Own} {w w' : World} {g : Nat} {t : TypeId} {cs : Array Value} (h : LoneB o w g t cs) (hT : Turn k o o' w w') : LoneB o' w' g t cs :=
  ⟨h.blk.same (hT.block g h.blk.lt fun t => by rw [h.none]; simp), by rw [hT.old g h.blk.lt]; exact h.none⟩
theorem LoneB.ext {o : Own} {w w' : World} {g : Nat} {t : TypeId} {cs : Array Value} (h : LoneB o w g t cs) (hb : Below w.heap.size w w') : LoneB o w' g t cs := ⟨h.blk.ext hb, h.none⟩
theorem RowK.fresh {k : Nat} {o : Own} {w w' : World} {base : Nat} {e : TypeId} {n : Nat} {v : Value} {xs : List Value} (ho : OwnIn o w) (hb : Below w.heap.size w w') (hbase : w.heap.size ≤ base) (h : w'.ownsRow base e 1 v n xs) : ∃ o', RowK k o' w' 0 e 1 v n xs ∧ Turn k o o' w w' ∧ OwnIn o' w' :=
  ⟨giveV o v (k, .waits), ⟨own_base h (Nat.zero_le _), fun _ hg => giveV_some hg⟩, (Turn.below ho hb).giveV (fun b e => Nat.le_trans hbase (h.lt b e).1) _, (ho.more hb.size).giveV fun b e => (h.lt b e).2⟩
theorem RowK.free {k j : Nat} {o : Own} {w : World} {base : Nat} {e : TypeId} {n : Nat} {v : Value} {xs : List Value} (h : RowK k o w base e 1 v n xs) (hkj : k ≠ j) : Free o j v := fun ad n' c ev hn t e2 => by
  rcases h.row.2 with ⟨e1, _⟩ | ⟨g, cap, cur, e1, _⟩
  · rw [ev] at e1; cases e1
  · rw [ev] at e1
    injection e1 with e1 e3 e4
    injection e1 with e1
    subst e1
    rw [h.own g (by rw [ev]; rfl)] at e2
    injection e2 with e2
    injection e2 with e2
    exact hkj e2
/-- a cell of a row of one's own is written -/
theorem RowK.put {k : Nat} {o : Own} {w w' : World} {e : TypeId} {n : Nat} {v : Value} {xs ys : List Value} {g : Nat} (h : RowK k o w 0 e 1 v n xs) (ho : OwnIn o w) (hv : v.ownBlock = some g) (hg : w.grownBy w' (some g)) (hr : w'.ownsRow 0 e 1 v n ys) : RowK k o w' 0 e 1 v n ys ∧ Turn k o o w w' ∧ OwnIn o w' :=
  ⟨⟨hr, h.own⟩, Turn.wrote ho hg (h.own g hv), ho.more hg.size⟩
theorem own_bool {w : World} {base : Nat} {e : TypeId} {A : Option Addr} {n c : Nat} {l : List Bool} (h : w.ownsRow base e 1 (.slice A n c) n (l.map .bool)) {i : Nat} (hi : i < n) :
    ∃ g cur b, A = some ⟨g, 0, none⟩ ∧ base ≤ g ∧ Blk w g e cur ∧ i < cur.size ∧ w.cell? ⟨g, i, none⟩ = some (.bool b) ∧ ∀ (w' : World) (x : Bool), Blk w' g e (cur.setIfInBounds i (.bool x)) → w'.ownsRow base e 1 (.slice A n c) n ((l.set i x).map .bool) := by
  have hl : l.length = n := by have := h.1; rw [List.length_map] at this; omega
  obtain ⟨ad, e3, hc⟩ := Rd.own h i (.bool (l[i]'(by omega))) (by rw [List.getElem?_map, List.getElem?_eq_getElem (by omega)]; rfl)
  rcases h.2 with ⟨e1, e2⟩ | ⟨g, cap, cur, e1, hb, hh, hc', hm, hs, ht⟩
  · omega
  · injection e1 with e1 _ e4
    subst e1 e4
    injection e3 with e3
    subst e3
    have h2 := hc
    rw [Addr.add_mid, Nat.zero_add] at h2
    refine ⟨g, cur, l[i], rfl, hb, hh, by omega, h2, fun w' x hx => ⟨by rw [List.length_map, List.length_set]; omega, .inr ⟨g, c, _, rfl, hb, hx, hc', hm, by rw [Array.size_setIfInBounds]; exact hs, ?_⟩⟩⟩
    rw [Array.toList_setIfInBounds, List.take_set, ht, List.map_set]
theorem slice_own {A : Option Addr} {g n c : Nat} (h : A = some ⟨g, 0, none⟩) : (Value.slice A n c).ownBlock = some g := by subst h; rfl
theorem flip_u8 (z : UInt8) : bits .xor .u8 (z.toNat : Int) 255 = ((z ^^^ 255).toNat : Int) := by
  have := u8_xor_nat z.toNat 255 z.toNat_lt (by decide)
  rw [UInt8.toNat_xor]
  exact this
theorem byte_at {w : World} {base : Nat} {e : TypeId} {A : Option Addr} {n c : Nat} {l : List UInt8} (h : w.ownsRow base e 1 (.slice A n c) n (bv l)) {i : Nat} (hi : i < n) : ∃ z : UInt8, ∀ g, A = some ⟨g, 0, none⟩ → w.cell? ⟨g, i, none⟩ = some (.int .u8 (z.toNat : Int)) := by
  have hl : l.length = n := by have := h.1; rw [bv_length] at this; omega
  refine ⟨l[i]'(by omega), fun g e2 => ?_⟩
  have := Rd.own h i _ (bv_get (l := l) (j := i) (by omega))
  obtain ⟨ad, e3, hc⟩ := this
  rw [e2] at e3
  injection e3 with e3
  subst e3
  rwa [Addr.add_mid, Nat.zero_add] at hc
theorem bytes_rd {w : World} {A : Option Addr} {n c : Nat} {l : List UInt8} (h : Bytes w (.slice A n c) l) : Rd w A (bv l) := by
  obtain ⟨A', n', c', e, _, _, _, h4⟩ := h
  injection e with e1 e2 e3
  subst e1
  exact h4
theorem bools_rd {w : World} {A : Option Addr} {n c : Nat} {l : List Bool} (h : Bools w (.slice A n c) l) : Rd w A (l.map .bool) := by
  obtain ⟨A', n', c', e, _, _, _, h4⟩ := h
  injection e with e1 e2 e3
  subst e1
  exact h4
theorem zCrash : (Try.prog.info? 35).bind (·.zero) = some (.agg #[.int .i64 0, .int .i64 0, .slice none 0 0]) := by kernel_rfl
theorem crash_cells {w : World} {g : Nat} {x y z : Value} (h4 : w.cell? ⟨g, 4, none⟩ = some x) (h5 : w.cell? ⟨g, 5, none⟩ = some y) (h6 : w.cell? ⟨g, 6, none⟩ = some z) : w.rangeAt g 4 [x, y, z] := fun j v hv => by
  match j, hv with
  | 0, hv => injection hv with hv; subst hv; exact h4
  | 1, hv => injection hv with hv; subst hv; exact h5
  | 2, hv => injection hv with hv; subst hv; exact h6
/-- a block of k's -/
structure BlkK (k : Nat) (o : Own) (w : World) (g : Nat) (t : TypeId) (cs : Array Value) : Prop where
  blk : Blk w g t cs
  own : o g = some (k, .waits)
theorem BlkK.turn {k j : Nat} {o o' : Own} {w w' : World} {g : Nat} {t : TypeId} {cs : Array Value} (h : BlkK k o w g t cs) (hT : Turn j o o' w w') (hj : k ≠ j) : BlkK k o' w' g t cs :=
  ⟨h.blk.same (hT.other hj h.blk.lt h.own).1, (hT.other hj h.blk.lt h.own).2⟩
theorem BlkK.fresh {k : Nat} {o : Own} {w w' : World} {g : Nat} {t : TypeId} {cs : Array Value} (ho : OwnIn o w) (hb : Below w.heap.size w w') (hg : w.heap.size ≤ g) (hx : Blk w' g t cs) : ∃ o', BlkK k o' w' g t cs ∧ Turn k o o' w w' ∧ OwnIn o' w' :=
  ⟨give o g (k, .waits), ⟨hx, give_same _ _ _⟩, (Turn.below ho hb).give hg _, (ho.more hb.size).give hx.lt _⟩
theorem BlkK.put {k : Nat} {o : Own} {w w' : World} {g : Nat} {t : TypeId} {cs cs' : Array Value} (h : BlkK k o w g t cs) (ho : OwnIn o w) (hx : Blk w' g t cs') (hg : w.grownBy w' (some g)) : BlkK k o w' g t cs' ∧ Turn k o o w w' ∧ OwnIn o w' :=
  ⟨⟨hx, h.own⟩, Turn.wrote ho hg h.own, ho.more hg.size⟩
theorem bools_own {w : World} {base : Nat} {e : TypeId} {v : Value} {n : Nat} {l : List Bool} (hl : l.length = n) (h : w.ownsRow base e 1 v n (l.map .bool)) : Bools w v l := by
  rcases h.2 with ⟨rfl, rfl⟩ | ⟨g, cap, cur, rfl, _, _, hnc, hcm, _⟩
  · have : l = [] := List.eq_nil_of_length_eq_zero hl
    subst this
    exact ⟨none, 0, 0, rfl, rfl, Nat.le_refl _, by unfold maxLen; omega, Rd.nil _ _⟩
  · exact ⟨_, n, cap, rfl, hl, hnc, hcm, Rd.own h⟩
/-- files, the reference's files, the third's files, and the act, beside each other -/
def Tri (p r q : Nat) (M M1 Mo : FSs) (K L K1 L1 K' L' : Nat) (w0 : World) (g : Nat) (cs : Array Value) (w : World) : Prop :=
  ∃ o, FsIn 0 p M o K L w0 w ∧ RfIn 1 r M1 o K1 L1 w0 w ∧ FsIn 2 q Mo o K' L' w0 w ∧ LoneB o w g 51 cs
theorem Tri.blk {p r q : Nat} {M M1 Mo : FSs} {K L K1 L1 K' L' : Nat} {w0 w : World} {g : Nat} {cs : Array Value} (h : Tri p r q M M1 Mo K L K1 L1 K' L' w0 g cs w) : Blk w g 51 cs := by obtain ⟨o, _, _, _, h⟩ := h; exact h.blk
/-- what a step leaves -/
def StepPost (p r q : Nat) (Mo : FSs) (K L K' L' : Nat) (w0 : World) (e : Ending) (w' : World) : Prop :=
  e = .returned (.bool true) ∧ ∃ M' o', FsIn 0 p M' o' (K + 2) (L + 200) w0 w' ∧ RfIn 1 r M' o' (K + 2) (L + 200) w0 w' ∧ FsIn 2 q Mo o' K' L' w0 w'
structure Short (a t : Ky) (b : List UInt8) (keep : List Bool) : Prop where
  a : a.length ≤ 200
  t : t.length ≤ 200
  b : b.length ≤ 200
  k : keep.length ≤ 100
/-- what a step is given -/
structure StepIn (p r q : Nat) (M Mo : FSs) (o : Own) (K L K' L' : Nat) (w0 w : World) (a t : Ky) (b : List UInt8) (op cut : Int) (keep : List Bool) (vb vk : Value) : Prop where
  hf : FsIn 0 p M o K L w0 w
  hr : RfIn 1 r M o K L w0 w
  ht : FsIn 2 q Mo o K' L' w0 w
  ho : -9223372036854775808 ≤ op ∧ op ≤ 9223372036854775807
  hc : -9223372036854775808 ≤ cut ∧ cut ≤ 9223372036854775807
  hb : Bytes w0 vb b
  hk : Bools w0 vk keep
  hs : Short a t b keep
  hK : K ≤ 99990
  hL : L ≤ 100000000
/-- what each operation of the region writes -/
def SPl2 (p r g : Nat) (a : Ky) (B0 : Bool) : Nat → Value → World → Prop
  | 0, v, _ => v = .pointer (some ⟨p, 0, none⟩)
  | 1, v, _ => v = .pointer (some ⟨g, 1, none⟩)
  | 2, v, _ => v = .string ⟨a.toArray⟩
  | 3, v, _ => v = .bool B0
  | 4, v, _ => v = .pointer (some ⟨r, 0, none⟩)
  | 5, v, _ => v = .pointer (some ⟨g, 1, none⟩)
  | 6, v, _ => v = .string ⟨a.toArray⟩
  | 7, v, _ => v = .bool B0
  | 8, v, _ => v = .bool true
  | _, v, _ => v = .bool true
theorem SPl2_stays (p r g : Nat) (a : Ky) (B0 : Bool) : ∀ i v (wa wb : World), (fun _ _ => True) wa wb → SPl2 p r g a B0 i v wa → SPl2 p r g a B0 i v wb
  | 0, _, _, _, _, h => h
  | 1, _, _, _, _, h => h
  | 2, _, _, _, _, h => h
  | 3, _, _, _, _, h => h
  | 4, _, _, _, _, h => h
  | 5, _, _, _, _, h => h
  | 6, _, _, _, _, h => h
  | 7, _, _, _, _, h => h
  | 8, _, _, _, _, h => h
  | _ + 9, _, _, _, _, h => h
/-- what each operation of the region writes -/
def SPl5 (p r g : Nat) (a : Ky) (B0 : Bool) : Nat → Value → World → Prop
  | 0, v, _ => v = .pointer (some ⟨p, 0, none⟩)
  | 1, v, _ => v = .pointer (some ⟨g, 1, none⟩)
  | 2, v, _ => v = .string ⟨a.toArray⟩
  | 3, v, _ => v = .bool B0
  | 4, v, _ => v = .pointer (some ⟨r, 0, none⟩)
  | 5, v, _ => v = .pointer (some ⟨g, 1, none⟩)
  | 6, v, _ => v = .string ⟨a.toArray⟩
  | 7, v, _ => v = .bool B0
  | 8, v, _ => v = .bool true
  | _, v, _ => v = .bool true
theorem SPl5_stays (p r g : Nat) (a : Ky) (B0 : Bool) : ∀ i v (wa wb : World), (fun _ _ => True) wa wb → SPl5 p r g a B0 i v wa → SPl5 p r g a B0 i v wb
  | 0, _, _, _, _, h => h
  | 1, _, _, _, _, h => h
  | 2, _, _, _, _, h => h
  | 3, _, _, _, _, h => h
  | 4, _, _, _, _, h => h
  | 5, _, _, _, _, h => h
  | 6, _, _, _, _, h => h
  | 7, _, _, _, _, h => h
  | 8, _, _, _, _, h => h
  | _ + 9, _, _, _, _, h => h
/-- what each operation of the region writes -/
def SPl4 (p r g : Nat) (a t : Ky) (B0 : Bool) : Nat → Value → World → Prop
  | 0, v, _ => v = .pointer (some ⟨p, 0, none⟩)
  | 1, v, _ => v = .pointer (some ⟨g, 1, none⟩)
  | 2, v, _ => v = .string ⟨a.toArray⟩
  | 3, v, _ => v = .pointer (some ⟨g, 2, none⟩)
  | 4, v, _ => v = .string ⟨t.toArray⟩
  | 5, v, _ => v = .bool B0
  | 6, v, _ => v = .pointer (some ⟨r, 0, none⟩)
  | 7, v, _ => v = .pointer (some ⟨g, 1, none⟩)
  | 8, v, _ => v = .string ⟨a.toArray⟩
  | 9, v, _ => v = .pointer (some ⟨g, 2, none⟩)
  | 10, v, _ => v = .string ⟨t.toArray⟩
  | 11, v, _ => v = .bool B0
  | 12, v, _ => v = .bool true
  | _, v, _ => v = .bool true
theorem SPl4_stays (p r g : Nat) (a t : Ky) (B0 : Bool) : ∀ i v (wa wb : World), (fun _ _ => True) wa wb → SPl4 p r g a t B0 i v wa → SPl4 p r g a t B0 i v wb
  | 0, _, _, _, _, h => h
  | 1, _, _, _, _, h => h
  | 2, _, _, _, _, h => h
  | 3, _, _, _, _, h => h
  | 4, _, _, _, _, h => h
  | 5, _, _, _, _, h => h
  | 6, _, _, _, _, h => h
  | 7, _, _, _, _, h => h
  | 8, _, _, _, _, h => h
  | 9, _, _, _, _, h => h
  | 10, _, _, _, _, h => h
  | 11, _, _, _, _, h => h
  | 12, _, _, _, _, h => h
  | _ + 13, _, _, _, _, h => h
set_option maxRecDepth 100000 in
set_option maxHeartbeats 4000000 in
theorem step_2 {p r q : Nat} {M Mo : FSs} {o : Own} {K L K' L' : Nat} {w0 w : World} {a t : Ky} {b : List UInt8} {op cut : Int} {keep : List Bool} {vb vk : Value} (H : StepIn p r q M Mo o K L K' L' w0 w a t b op cut keep vb vk) :
    Calls Try.prog 27 #[.pointer (some ⟨p, 0, none⟩), .pointer (some ⟨r, 0, none⟩), .agg #[.int .i64 2, .string ⟨a.toArray⟩, .string ⟨t.toArray⟩, vb, .int .i64 op, .int .i64 cut, vk]] w (StepPost p r q Mo K L K' L' w0) := by
  have hbT := bytesTyC
  obtain ⟨hF, hR, hT, ho, hc, hb, hk, hs, hK, hL⟩ := H
  obtain ⟨sa, st, sb, sk⟩ := hs
  have HB := Lib.hid hb
  have HK := Lib.hid hk
  obtain ⟨Ab, nb, cb, rfl, hbn, hbc, hbm, _⟩ := hb
  obtain ⟨Ak, nk, ck, rfl, hkn, hkc, hkm, _⟩ := hk
  unfold maxLen at hbm hkm
  go_enter Try.func27, Try.ntmps27
  go_upto_region 22 with (first
    | ((with_reducible refine gd_box ?_); refine wpList_box_agg rfl _ (.tmp 2) rfl rfl ?_; intro w1 hx1 hb1 hl1; have h1 := hF.ext hb1; have R1 := hR.ext hb1; have t1 := hT.ext hb1; have G1 : LoneB o w1 w.heap.size 51 #[.int .i64 2, .string ⟨a.toArray⟩, .string ⟨t.toArray⟩, .slice Ab nb cb, .int .i64 op, .int .i64 cut, .slice Ak nk ck] := ⟨hx1, hF.own _ (Nat.le_refl _)⟩; have y0 := hx1.cellv (i := 0) rfl; have y1 := hx1.cellv (i := 1) rfl; have y2 := hx1.cellv (i := 2) rfl; have y3 := hx1.cellv (i := 3) rfl; have y4 := hx1.cellv (i := 4) rfl; have y5 := hx1.cellv (i := 5) rfl; have y6 := hx1.cellv (i := 6) rfl; clear hF hR hT)
    | fail)
  obtain ⟨B0, hB0⟩ : ∃ x, x = goesB M (isB M a) := ⟨_, rfl⟩
  have HB0 := Lib.hid hB0
  have HEQ := Lib.hid (show (B0 == B0) = true by simp)
  obtain ⟨g, hg⟩ : ∃ x, x = w.heap.size := ⟨_, rfl⟩
  rw [← hg] at G1 ⊢
  obtain ⟨cs, hcs⟩ : ∃ x, x = (#[.int .i64 2, .string ⟨a.toArray⟩, .string ⟨t.toArray⟩, .slice Ab nb cb, .int .i64 op, .int .i64 cut, .slice Ak nk ck] : Array Value) := ⟨_, rfl⟩
  have HCS := Lib.hid hcs
  rw [← hcs] at G1
  have i1 : cs[1]? = some (.string ⟨a.toArray⟩) := by rw [hcs]; rfl
  have i2 : cs[2]? = some (.string ⟨t.toArray⟩) := by rw [hcs]; rfl
  have I1 := Lib.hid i1
  have I2 := Lib.hid i2
  have tA : Tri p r q M M Mo K L K L K' L' w0 g cs w1.drew := ⟨o, h1.drewN 1, R1.drewN 1, t1.drewN 1, G1.ext (below_drewN (Below.refl _ _) 1)⟩
  have HBK := Lib.hid (fun (L2 : Nat → Bool) (V : Nat → Value) (w' : World) (hj : J2 3 7 (Tri p r q M M Mo K L K L K' L' w0 g cs) (Tri p r q (syncM M a) M Mo (K + 2) L K L K' L' w0 g cs) (Tri p r q (syncM M a) (syncM M a) Mo (K + 2) L (K + 2) L K' L' w0 g cs) L2 V w') => hj.blk (fun _ h => h.blk) (fun _ h => h.blk) (fun _ h => h.blk))
  clear hB0 hg hcs i1 i2 G1 h1 R1 t1 hx1 hb1 hl1 y0 y1 y2 y3 y4 y5 y6
  refine wp_region_phase (by kernel_rfl) (by kernel_rfl) (by kernel_rfl) (fun _ _ => True) (fun _ => trivial) (fun _ _ _ _ _ => trivial) (SPl2 p r g a B0) (SPl2_stays _ _ _ _ _) (J2 3 7 (Tri p r q M M Mo K L K L K' L' w0 g cs) (Tri p r q (syncM M a) M Mo (K + 2) L K L K' L' w0 g cs) (Tri p r q (syncM M a) (syncM M a) Mo (K + 2) L (K + 2) L K' L' w0 g cs)) ⟨fun _ => tA, fun e => (by cases e), fun e => (by cases e)⟩ ?_ ?_
  · simp only [PhStep]
    refine ⟨?_, ?_, ?_, ?_, ?_, ?_, ?_, ?_, ?_, ?_, trivial⟩
    · intro L V w' hb hj hl hdo hcl hd
      clear hdo hcl
      clear hd
      refine ⟨?_⟩
      simp only [fill]
      go_wp2
      exact ⟨⟨rfl, rfl, trivial, rfl⟩, hj.far (by decide) (by decide)⟩
    · intro L V w' hb hj hl hdo hcl hd
      clear hdo hcl
      clear hd
      refine ⟨?_⟩
      simp only [fill]
      go_wp2
      exact ⟨⟨rfl, rfl, trivial, rfl⟩, hj.far (by decide) (by decide)⟩
    · intro L V w' hb hj hl hdo hcl hd
      have yj := (HBK.out _ _ _ hj).cellv (i := 1) I1.out
      clear hdo hcl
      simp only [DepFacts, SPl2, Region.binds, forall_const, and_true] at hd
      refine ⟨?_⟩
      simp only [fill, hd]
      clear hd
      go_wp2
      exact ⟨⟨rfl, rfl, trivial, rfl⟩, hj.far (by decide) (by decide)⟩
    · intro L V w' hb hj hl hdo hcl hd
      have h7 : L 7 = false := Bool.eq_false_iff.2 fun e => by have := hcl 7 3 (by kernel_rfl) e; rw [this] at hl; cases hl
      obtain ⟨oA, hFa, hRa, hTa, hGa⟩ := hj.a hl
      clear hdo hcl
      simp only [DepFacts, SPl2, Region.binds, forall_const, and_true] at hd
      refine ⟨?_⟩
      simp only [fill, hd]
      clear hd
      simp only [Act.put, List.setIfInBounds_toArray, List.set_cons_zero, List.set_cons_succ]
      go_wp2_with (first | (go_at_call 13; (with_reducible refine (Sync_in hFa a (by omega) (by omega) (by omega)).mono ?_); rintro e w3 ⟨he, o3, h3, T3⟩; rw [← HB0.out] at he; subst he) | fail)
      exact ⟨⟨rfl, rfl, trivial, rfl⟩, J2.one (by decide) h7 ⟨o3, h3, hRa.turn h3.own T3 (by decide), hTa.turn h3.own T3 (by decide), hGa.turn T3⟩⟩
    · intro L V w' hb hj hl hdo hcl hd
      clear hdo hcl
      clear hd
      refine ⟨?_⟩
      simp only [fill]
      go_wp2
      exact ⟨⟨rfl, rfl, trivial, rfl⟩, hj.far (by decide) (by decide)⟩
    · intro L V w' hb hj hl hdo hcl hd
      clear hdo hcl
      clear hd
      refine ⟨?_⟩
      simp only [fill]
      go_wp2
      exact ⟨⟨rfl, rfl, trivial, rfl⟩, hj.far (by decide) (by decide)⟩
    · intro L V w' hb hj hl hdo hcl hd
      have yj := (HBK.out _ _ _ hj).cellv (i := 1) I1.out
      clear hdo hcl
      simp only [DepFacts, SPl2, Region.binds, forall_const, and_true] at hd
      refine ⟨?_⟩
      simp only [fill, hd]
      clear hd
      go_wp2
      exact ⟨⟨rfl, rfl, trivial, rfl⟩, hj.far (by decide) (by decide)⟩
    · intro L V w' hb hj hl hdo hcl hd
      have h3 : L 3 = true := hdo 3 (by kernel_rfl)
      obtain ⟨oA, hFa, hRa, hTa, hGa⟩ := hj.b h3 hl
      clear hdo hcl
      simp only [DepFacts, SPl2, Region.binds, forall_const, and_true] at hd
      refine ⟨?_⟩
      simp only [fill, hd]
      clear hd
      simp only [Act.put, List.setIfInBounds_toArray, List.set_cons_zero, List.set_cons_succ]
      go_wp2_with (first | (go_at_call 14; (with_reducible refine (RpSync_in hRa a (by omega) (by omega)).mono ?_); rintro e w3 ⟨he, o3, h4, T3⟩; rw [← HB0.out] at he; subst he) | fail)
      exact ⟨⟨rfl, rfl, trivial, rfl⟩, J2.two (by decide) h3 ⟨o3, hFa.turn h4.own T3 (by decide), h4, hTa.turn h4.own T3 (by decide), hGa.turn T3⟩⟩
    · intro L V w' hb hj hl hdo hcl hd
      have q := HEQ.out
      clear hdo hcl
      simp only [DepFacts, SPl2, Region.binds, forall_const, and_true] at hd
      refine ⟨?_⟩
      simp only [fill, hd]
      clear hd
      go_wp2
      exact ⟨⟨rfl, rfl, trivial, rfl⟩, hj.far (by decide) (by decide)⟩
    · intro L V w' hb hj hl hdo hcl hd
      clear hdo hcl
      simp only [DepFacts, SPl2, Region.binds, forall_const, and_true] at hd
      refine ⟨?_⟩
      simp only [fill, hd]
      clear hd
      go_wp2
      exact ⟨⟨rfl, rfl, trivial, rfl⟩, hj.far (by decide) (by decide)⟩
  · intro L2 V w9 hL2 hb9 hs9 hj
    obtain ⟨o9, f9, r9, t9, _⟩ := hj.c (hL2 7 (by decide))
    simp only [SFacts, SPl2] at hs9
    have e9 := hs9.2.2.2.2.2.2.2.2.2.1
    clear hs9 hj hL2
    simp only [fill, e9]
    clear e9
    try simp only [Exit.then]
    try go_simp
    go_wp2
    go_ret
    exact ⟨rfl, _, o9, f9.more (by omega) (by omega), r9.more (by omega) (by omega), t9⟩
set_option maxRecDepth 100000 in
set_option maxHeartbeats 4000000 in
theorem step_5 {p r q : Nat} {M Mo : FSs} {o : Own} {K L K' L' : Nat} {w0 w : World} {a t : Ky} {b : List UInt8} {op cut : Int} {keep : List Bool} {vb vk : Value} (H : StepIn p r q M Mo o K L K' L' w0 w a t b op cut keep vb vk) :
    Calls Try.prog 27 #[.pointer (some ⟨p, 0, none⟩), .pointer (some ⟨r, 0, none⟩), .agg #[.int .i64 5, .string ⟨a.toArray⟩, .string ⟨t.toArray⟩, vb, .int .i64 op, .int .i64 cut, vk]] w (StepPost p r q Mo K L K' L' w0) := by
  have hbT := bytesTyC
  obtain ⟨hF, hR, hT, ho, hc, hb, hk, hs, hK, hL⟩ := H
  obtain ⟨sa, st, sb, sk⟩ := hs
  have HB := Lib.hid hb
  have HK := Lib.hid hk
  obtain ⟨Ab, nb, cb, rfl, hbn, hbc, hbm, _⟩ := hb
  obtain ⟨Ak, nk, ck, rfl, hkn, hkc, hkm, _⟩ := hk
  unfold maxLen at hbm hkm
  go_enter Try.func27, Try.ntmps27
  go_upto_region 28 with (first
    | ((with_reducible refine gd_box ?_); refine wpList_box_agg rfl _ (.tmp 2) rfl rfl ?_; intro w1 hx1 hb1 hl1; have h1 := hF.ext hb1; have R1 := hR.ext hb1; have t1 := hT.ext hb1; have G1 : LoneB o w1 w.heap.size 51 #[.int .i64 5, .string ⟨a.toArray⟩, .string ⟨t.toArray⟩, .slice Ab nb cb, .int .i64 op, .int .i64 cut, .slice Ak nk ck] := ⟨hx1, hF.own _ (Nat.le_refl _)⟩; have y0 := hx1.cellv (i := 0) rfl; have y1 := hx1.cellv (i := 1) rfl; have y2 := hx1.cellv (i := 2) rfl; have y3 := hx1.cellv (i := 3) rfl; have y4 := hx1.cellv (i := 4) rfl; have y5 := hx1.cellv (i := 5) rfl; have y6 := hx1.cellv (i := 6) rfl; clear hF hR hT)
    | fail)
  obtain ⟨B0, hB0⟩ : ∃ x, x = goesB M (isB M a) := ⟨_, rfl⟩
  have HB0 := Lib.hid hB0
  have HEQ := Lib.hid (show (B0 == B0) = true by simp)
  obtain ⟨g, hg⟩ : ∃ x, x = w.heap.size := ⟨_, rfl⟩
  rw [← hg] at G1 ⊢
  obtain ⟨cs, hcs⟩ : ∃ x, x = (#[.int .i64 5, .string ⟨a.toArray⟩, .string ⟨t.toArray⟩, .slice Ab nb cb, .int .i64 op, .int .i64 cut, .slice Ak nk ck] : Array Value) := ⟨_, rfl⟩
  have HCS := Lib.hid hcs
  rw [← hcs] at G1
  have i1 : cs[1]? = some (.string ⟨a.toArray⟩) := by rw [hcs]; rfl
  have i2 : cs[2]? = some (.string ⟨t.toArray⟩) := by rw [hcs]; rfl
  have I1 := Lib.hid i1
  have I2 := Lib.hid i2
  have tA : Tri p r q M M Mo K L K L K' L' w0 g cs w1.drew := ⟨o, h1.drewN 1, R1.drewN 1, t1.drewN 1, G1.ext (below_drewN (Below.refl _ _) 1)⟩
  have HBK := Lib.hid (fun (L2 : Nat → Bool) (V : Nat → Value) (w' : World) (hj : J2 3 7 (Tri p r q M M Mo K L K L K' L' w0 g cs) (Tri p r q (delM M a) M Mo (K + 2) L K L K' L' w0 g cs) (Tri p r q (delM M a) (delM M a) Mo (K + 2) L (K + 2) L K' L' w0 g cs) L2 V w') => hj.blk (fun _ h => h.blk) (fun _ h => h.blk) (fun _ h => h.blk))
  clear hB0 hg hcs i1 i2 G1 h1 R1 t1 hx1 hb1 hl1 y0 y1 y2 y3 y4 y5 y6
  refine wp_region_phase (by kernel_rfl) (by kernel_rfl) (by kernel_rfl) (fun _ _ => True) (fun _ => trivial) (fun _ _ _ _ _ => trivial) (SPl5 p r g a B0) (SPl5_stays _ _ _ _ _) (J2 3 7 (Tri p r q M M Mo K L K L K' L' w0 g cs) (Tri p r q (delM M a) M Mo (K + 2) L K L K' L' w0 g cs) (Tri p r q (delM M a) (delM M a) Mo (K + 2) L (K + 2) L K' L' w0 g cs)) ⟨fun _ => tA, fun e => (by cases e), fun e => (by cases e)⟩ ?_ ?_
  · simp only [PhStep]
    refine ⟨?_, ?_, ?_, ?_, ?_, ?_, ?_, ?_, ?_, ?_, trivial⟩
    · intro L V w' hb hj hl hdo hcl hd
      clear hdo hcl
      clear hd
      refine ⟨?_⟩
      simp only [fill]
      go_wp2
      exact ⟨⟨rfl, rfl, trivial, rfl⟩, hj.far (by decide) (by decide)⟩
    · intro L V w' hb hj hl hdo hcl hd
      clear hdo hcl
      clear hd
      refine ⟨?_⟩
      simp only [fill]
      go_wp2
      exact ⟨⟨rfl, rfl, trivial, rfl⟩, hj.far (by decide) (by decide)⟩
    · intro L V w' hb hj hl hdo hcl hd
      have yj := (HBK.out _ _ _ hj).cellv (i := 1) I1.out
      clear hdo hcl
      simp only [DepFacts, SPl5, Region.binds, forall_const, and_true] at hd
      refine ⟨?_⟩
      simp only [fill, hd]
      clear hd
      go_wp2
      exact ⟨⟨rfl, rfl, trivial, rfl⟩, hj.far (by decide) (by decide)⟩
    · intro L V w' hb hj hl hdo hcl hd
      have h7 : L 7 = false := Bool.eq_false_iff.2 fun e => by have := hcl 7 3 (by kernel_rfl) e; rw [this] at hl; cases hl
      obtain ⟨oA, hFa, hRa, hTa, hGa⟩ := hj.a hl
      clear hdo hcl
      simp only [DepFacts, SPl5, Region.binds, forall_const, and_true] at hd
      refine ⟨?_⟩
      simp only [fill, hd]
      clear hd
      simp only [Act.put, List.setIfInBounds_toArray, List.set_cons_zero, List.set_cons_succ]
      go_wp2_with (first | (go_at_call 24; (with_reducible refine (Del_in hFa a (by omega) (by omega) (by omega)).mono ?_); rintro e w3 ⟨he, o3, h3, T3⟩; rw [← HB0.out] at he; subst he) | fail)
      exact ⟨⟨rfl, rfl, trivial, rfl⟩, J2.one (by decide) h7 ⟨o3, h3, hRa.turn h3.own T3 (by decide), hTa.turn h3.own T3 (by decide), hGa.turn T3⟩⟩
    · intro L V w' hb hj hl hdo hcl hd
      clear hdo hcl
      clear hd
      refine ⟨?_⟩
      simp only [fill]
      go_wp2
      exact ⟨⟨rfl, rfl, trivial, rfl⟩, hj.far (by decide) (by decide)⟩
    · intro L V w' hb hj hl hdo hcl hd
      clear hdo hcl
      clear hd
      refine ⟨?_⟩
      simp only [fill]
      go_wp2
      exact ⟨⟨rfl, rfl, trivial, rfl⟩, hj.far (by decide) (by decide)⟩
    · intro L V w' hb hj hl hdo hcl hd
      have yj := (HBK.out _ _ _ hj).cellv (i := 1) I1.out
      clear hdo hcl
      simp only [DepFacts, SPl5, Region.binds, forall_const, and_true] at hd
      refine ⟨?_⟩
      simp only [fill, hd]
      clear hd
      go_wp2
      exact ⟨⟨rfl, rfl, trivial, rfl⟩, hj.far (by decide) (by decide)⟩
    · intro L V w' hb hj hl hdo hcl hd
      have h3 : L 3 = true := hdo 3 (by kernel_rfl)
      obtain ⟨oA, hFa, hRa, hTa, hGa⟩ := hj.b h3 hl
      clear hdo hcl
      simp only [DepFacts, SPl5, Region.binds, forall_const, and_true] at hd
      refine ⟨?_⟩
      simp only [fill, hd]
      clear hd
      simp only [Act.put, List.setIfInBounds_toArray, List.set_cons_zero, List.set_cons_succ]
      go_wp2_with (first | (go_at_call 42; (with_reducible refine (RpDel_in hRa a (by omega) (by omega)).mono ?_); rintro e w3 ⟨he, o3, h4, T3⟩; rw [← HB0.out] at he; subst he) | fail)
      exact ⟨⟨rfl, rfl, trivial, rfl⟩, J2.two (by decide) h3 ⟨o3, hFa.turn h4.own T3 (by decide), h4, hTa.turn h4.own T3 (by decide), hGa.turn T3⟩⟩
    · intro L V w' hb hj hl hdo hcl hd
      have q := HEQ.out
      clear hdo hcl
      simp only [DepFacts, SPl5, Region.binds, forall_const, and_true] at hd
      refine ⟨?_⟩
      simp only [fill, hd]
      clear hd
      go_wp2
      exact ⟨⟨rfl, rfl, trivial, rfl⟩, hj.far (by decide) (by decide)⟩
    · intro L V w' hb hj hl hdo hcl hd
      clear hdo hcl
      simp only [DepFacts, SPl5, Region.binds, forall_const, and_true] at hd
      refine ⟨?_⟩
      simp only [fill, hd]
      clear hd
      go_wp2
      exact ⟨⟨rfl, rfl, trivial, rfl⟩, hj.far (by decide) (by decide)⟩
  · intro L2 V w9 hL2 hb9 hs9 hj
    obtain ⟨o9, f9, r9, t9, _⟩ := hj.c (hL2 7 (by decide))
    simp only [SFacts, SPl5] at hs9
    have e9 := hs9.2.2.2.2.2.2.2.2.2.1
    clear hs9 hj hL2
    simp only [fill, e9]
    clear e9
    try simp only [Exit.then]
    try go_simp
    go_wp2
    go_ret
    exact ⟨rfl, _, o9, f9.more (by omega) (by omega), r9.more (by omega) (by omega), t9⟩
set_option maxRecDepth 100000 in
set_option maxHeartbeats 4000000 in
theorem step_4 {p r q : Nat} {M Mo : FSs} {o : Own} {K L K' L' : Nat} {w0 w : World} {a t : Ky} {b : List UInt8} {op cut : Int} {keep : List Bool} {vb vk : Value} (H : StepIn p r q M Mo o K L K' L' w0 w a t b op cut keep vb vk) :
    Calls Try.prog 27 #[.pointer (some ⟨p, 0, none⟩), .pointer (some ⟨r, 0, none⟩), .agg #[.int .i64 4, .string ⟨a.toArray⟩, .string ⟨t.toArray⟩, vb, .int .i64 op, .int .i64 cut, vk]] w (StepPost p r q Mo K L K' L' w0) := by
  have hbT := bytesTyC
  obtain ⟨hF, hR, hT, ho, hc, hb, hk, hs, hK, hL⟩ := H
  obtain ⟨sa, st, sb, sk⟩ := hs
  have HB := Lib.hid hb
  have HK := Lib.hid hk
  obtain ⟨Ab, nb, cb, rfl, hbn, hbc, hbm, _⟩ := hb
  obtain ⟨Ak, nk, ck, rfl, hkn, hkc, hkm, _⟩ := hk
  unfold maxLen at hbm hkm
  go_enter Try.func27, Try.ntmps27
  go_upto_region 26 with (first
    | ((with_reducible refine gd_box ?_); refine wpList_box_agg rfl _ (.tmp 2) rfl rfl ?_; intro w1 hx1 hb1 hl1; have h1 := hF.ext hb1; have R1 := hR.ext hb1; have t1 := hT.ext hb1; have G1 : LoneB o w1 w.heap.size 51 #[.int .i64 4, .string ⟨a.toArray⟩, .string ⟨t.toArray⟩, .slice Ab nb cb, .int .i64 op, .int .i64 cut, .slice Ak nk ck] := ⟨hx1, hF.own _ (Nat.le_refl _)⟩; have y0 := hx1.cellv (i := 0) rfl; have y1 := hx1.cellv (i := 1) rfl; have y2 := hx1.cellv (i := 2) rfl; have y3 := hx1.cellv (i := 3) rfl; have y4 := hx1.cellv (i := 4) rfl; have y5 := hx1.cellv (i := 5) rfl; have y6 := hx1.cellv (i := 6) rfl; clear hF hR hT)
    | fail)
  obtain ⟨B0, hB0⟩ : ∃ x, x = goesB M (isB M a && namedB t) := ⟨_, rfl⟩
  have HB0 := Lib.hid hB0
  have HEQ := Lib.hid (show (B0 == B0) = true by simp)
  obtain ⟨g, hg⟩ : ∃ x, x = w.heap.size := ⟨_, rfl⟩
  rw [← hg] at G1 ⊢
  obtain ⟨cs, hcs⟩ : ∃ x, x = (#[.int .i64 4, .string ⟨a.toArray⟩, .string ⟨t.toArray⟩, .slice Ab nb cb, .int .i64 op, .int .i64 cut, .slice Ak nk ck] : Array Value) := ⟨_, rfl⟩
  have HCS := Lib.hid hcs
  rw [← hcs] at G1
  have i1 : cs[1]? = some (.string ⟨a.toArray⟩) := by rw [hcs]; rfl
  have i2 : cs[2]? = some (.string ⟨t.toArray⟩) := by rw [hcs]; rfl
  have I1 := Lib.hid i1
  have I2 := Lib.hid i2
  have tA : Tri p r q M M Mo K L K L K' L' w0 g cs w1.drew := ⟨o, h1.drewN 1, R1.drewN 1, t1.drewN 1, G1.ext (below_drewN (Below.refl _ _) 1)⟩
  have HBK := Lib.hid (fun (L2 : Nat → Bool) (V : Nat → Value) (w' : World) (hj : J2 5 11 (Tri p r q M M Mo K L K L K' L' w0 g cs) (Tri p r q (renM M a t) M Mo (K + 2) L K L K' L' w0 g cs) (Tri p r q (renM M a t) (renM M a t) Mo (K + 2) L (K + 2) L K' L' w0 g cs) L2 V w') => hj.blk (fun _ h => h.blk) (fun _ h => h.blk) (fun _ h => h.blk))
  clear hB0 hg hcs i1 i2 G1 h1 R1 t1 hx1 hb1 hl1 y0 y1 y2 y3 y4 y5 y6
  refine wp_region_phase (by kernel_rfl) (by kernel_rfl) (by kernel_rfl) (fun _ _ => True) (fun _ => trivial) (fun _ _ _ _ _ => trivial) (SPl4 p r g a t B0) (SPl4_stays _ _ _ _ _ _) (J2 5 11 (Tri p r q M M Mo K L K L K' L' w0 g cs) (Tri p r q (renM M a t) M Mo (K + 2) L K L K' L' w0 g cs) (Tri p r q (renM M a t) (renM M a t) Mo (K + 2) L (K + 2) L K' L' w0 g cs)) ⟨fun _ => tA, fun e => (by cases e), fun e => (by cases e)⟩ ?_ ?_
  · simp only [PhStep]
    refine ⟨?_, ?_, ?_, ?_, ?_, ?_, ?_, ?_, ?_, ?_, ?_, ?_, ?_, ?_, trivial⟩
    · intro L V w' hb hj hl hdo hcl hd
      clear hdo hcl
      clear hd
      refine ⟨?_⟩
      simp only [fill]
      go_wp2
      exact ⟨⟨rfl, rfl, trivial, rfl⟩, hj.far (by decide) (by decide)⟩
    · intro L V w' hb hj hl hdo hcl hd
      clear hdo hcl
      clear hd
      refine ⟨?_⟩
      simp only [fill]
      go_wp2
      exact ⟨⟨rfl, rfl, trivial, rfl⟩, hj.far (by decide) (by decide)⟩
    · intro L V w' hb hj hl hdo hcl hd
      have yj := (HBK.out _ _ _ hj).cellv (i := 1) I1.out
      clear hdo hcl
      simp only [DepFacts, SPl4, Region.binds, forall_const, and_true] at hd
      refine ⟨?_⟩
      simp only [fill, hd]
      clear hd
      go_wp2
      exact ⟨⟨rfl, rfl, trivial, rfl⟩, hj.far (by decide) (by decide)⟩
    · intro L V w' hb hj hl hdo hcl hd
      clear hdo hcl
      clear hd
      refine ⟨?_⟩
      simp only [fill]
      go_wp2
      exact ⟨⟨rfl, rfl, trivial, rfl⟩, hj.far (by decide) (by decide)⟩
    · intro L V w' hb hj hl hdo hcl hd
      have yj := (HBK.out _ _ _ hj).cellv (i := 2) I2.out
      clear hdo hcl
      simp only [DepFacts, SPl4, Region.binds, forall_const, and_true] at hd
      refine ⟨?_⟩
      simp only [fill, hd]
      clear hd
      go_wp2
      exact ⟨⟨rfl, rfl, trivial, rfl⟩, hj.far (by decide) (by decide)⟩
    · intro L V w' hb hj hl hdo hcl hd
      have h7 : L 11 = false := Bool.eq_false_iff.2 fun e => by have := hcl 11 5 (by kernel_rfl) e; rw [this] at hl; cases hl
      obtain ⟨oA, hFa, hRa, hTa, hGa⟩ := hj.a hl
      clear hdo hcl
      simp only [DepFacts, SPl4, Region.binds, forall_const, and_true] at hd
      refine ⟨?_⟩
      simp only [fill, hd]
      clear hd
      simp only [Act.put, List.setIfInBounds_toArray, List.set_cons_zero, List.set_cons_succ]
      go_wp2_with (first | (go_at_call 25; (with_reducible refine (Ren_in hFa a t (by omega) (by omega) (by omega) (by omega)).mono ?_); rintro e w3 ⟨he, o3, h3, T3⟩; rw [← HB0.out] at he; subst he) | fail)
      exact ⟨⟨rfl, rfl, trivial, rfl⟩, J2.one (by decide) h7 ⟨o3, h3, hRa.turn h3.own T3 (by decide), hTa.turn h3.own T3 (by decide), hGa.turn T3⟩⟩
    · intro L V w' hb hj hl hdo hcl hd
      clear hdo hcl
      clear hd
      refine ⟨?_⟩
      simp only [fill]
      go_wp2
      exact ⟨⟨rfl, rfl, trivial, rfl⟩, hj.far (by decide) (by decide)⟩
    · intro L V w' hb hj hl hdo hcl hd
      clear hdo hcl
      clear hd
      refine ⟨?_⟩
      simp only [fill]
      go_wp2
      exact ⟨⟨rfl, rfl, trivial, rfl⟩, hj.far (by decide) (by decide)⟩
    · intro L V w' hb hj hl hdo hcl hd
      have yj := (HBK.out _ _ _ hj).cellv (i := 1) I1.out
      clear hdo hcl
      simp only [DepFacts, SPl4, Region.binds, forall_const, and_true] at hd
      refine ⟨?_⟩
      simp only [fill, hd]
      clear hd
      go_wp2
      exact ⟨⟨rfl, rfl, trivial, rfl⟩, hj.far (by decide) (by decide)⟩
    · intro L V w' hb hj hl hdo hcl hd
      clear hdo hcl
      clear hd
      refine ⟨?_⟩
      simp only [fill]
      go_wp2
      exact ⟨⟨rfl, rfl, trivial, rfl⟩, hj.far (by decide) (by decide)⟩
    · intro L V w' hb hj hl hdo hcl hd
      have yj := (HBK.out _ _ _ hj).cellv (i := 2) I2.out
      clear hdo hcl
      simp only [DepFacts, SPl4, Region.binds, forall_const, and_true] at hd
      refine ⟨?_⟩
      simp only [fill, hd]
      clear hd
      go_wp2
      exact ⟨⟨rfl, rfl, trivial, rfl⟩, hj.far (by decide) (by decide)⟩
    · intro L V w' hb hj hl hdo hcl hd
      have h3 : L 5 = true := hdo 5 (by kernel_rfl)
      obtain ⟨oA, hFa, hRa, hTa, hGa⟩ := hj.b h3 hl
      clear hdo hcl
      simp only [DepFacts, SPl4, Region.binds, forall_const, and_true] at hd
      refine ⟨?_⟩
      simp only [fill, hd]
      clear hd
      simp only [Act.put, List.setIfInBounds_toArray, List.set_cons_zero, List.set_cons_succ]
      go_wp2_with (first | (go_at_call 41; (with_reducible refine (RpRen_in hRa a t (by omega) (by omega)).mono ?_); rintro e w3 ⟨he, o3, h4, T3⟩; rw [← HB0.out] at he; subst he) | fail)
      exact ⟨⟨rfl, rfl, trivial, rfl⟩, J2.two (by decide) h3 ⟨o3, hFa.turn h4.own T3 (by decide), h4, hTa.turn h4.own T3 (by decide), hGa.turn T3⟩⟩
    · intro L V w' hb hj hl hdo hcl hd
      have q := HEQ.out
      clear hdo hcl
      simp only [DepFacts, SPl4, Region.binds, forall_const, and_true] at hd
      refine ⟨?_⟩
      simp only [fill, hd]
      clear hd
      go_wp2
      exact ⟨⟨rfl, rfl, trivial, rfl⟩, hj.far (by decide) (by decide)⟩
    · intro L V w' hb hj hl hdo hcl hd
      clear hdo hcl
      simp only [DepFacts, SPl4, Region.binds, forall_const, and_true] at hd
      refine ⟨?_⟩
      simp only [fill, hd]
      clear hd
      go_wp2
      exact ⟨⟨rfl, rfl, trivial, rfl⟩, hj.far (by decide) (by decide)⟩
  · intro L2 V w9 hL2 hb9 hs9 hj
    obtain ⟨o9, f9, r9, t9, _⟩ := hj.c (hL2 11 (by decide))
    simp only [SFacts, SPl4] at hs9
    have e9 := hs9.2.2.2.2.2.2.2.2.2.2.2.2.2.1
    clear hs9 hj hL2
    simp only [fill, e9]
    clear e9
    try simp only [Exit.then]
    try go_simp
    go_wp2
    go_ret
    exact ⟨rfl, _, o9, f9.more (by omega) (by omega), r9.more (by omega) (by omega), t9⟩
set_option maxRecDepth 100000 in
set_option maxHeartbeats 4000000 in
theorem step_3 {p r q : Nat} {M Mo : FSs} {o : Own} {K L K' L' : Nat} {w0 w : World} {a t : Ky} {b : List UInt8} {op cut : Int} {keep : List Bool} {vb vk : Value} (H : StepIn p r q M Mo o K L K' L' w0 w a t b op cut keep vb vk) :
    Calls Try.prog 27 #[.pointer (some ⟨p, 0, none⟩), .pointer (some ⟨r, 0, none⟩), .agg #[.int .i64 3, .string ⟨a.toArray⟩, .string ⟨t.toArray⟩, vb, .int .i64 op, .int .i64 cut, vk]] w (StepPost p r q Mo K L K' L' w0) := by
  have hbT := bytesTyC
  obtain ⟨hF, hR, hT, ho, hc, hb, hk, hs, hK, hL⟩ := H
  obtain ⟨sa, st, sb, sk⟩ := hs
  have HB := Lib.hid hb
  have HK := Lib.hid hk
  obtain ⟨Ab, nb, cb, rfl, hbn, hbc, hbm, _⟩ := hb
  obtain ⟨Ak, nk, ck, rfl, hkn, hkc, hkm, _⟩ := hk
  unfold maxLen at hbm hkm
  go_enter Try.func27, Try.ntmps27
  obtain ⟨B0, hB0⟩ : ∃ x, x = goesB M (!M.dead) := ⟨_, rfl⟩
  have HB0 := Lib.hid hB0
  have q0 : (B0 == B0) = true := by simp
  clear hB0
  go_wp2_with (first
    | ((with_reducible refine gd_box ?_); refine wpList_box_agg rfl _ (.tmp 2) rfl rfl ?_; intro w1 hx1 hb1 hl1; have h1 := hF.ext hb1; have R1 := hR.ext hb1; have t1 := hT.ext hb1; have G1 : LoneB o w1 w.heap.size 51 #[.int .i64 3, .string ⟨a.toArray⟩, .string ⟨t.toArray⟩, .slice Ab nb cb, .int .i64 op, .int .i64 cut, .slice Ak nk ck] := ⟨hx1, hF.own _ (Nat.le_refl _)⟩; have y0 := hx1.cellv (i := 0) rfl; have y1 := hx1.cellv (i := 1) rfl; have y2 := hx1.cellv (i := 2) rfl; have y3 := hx1.cellv (i := 3) rfl; have y4 := hx1.cellv (i := 4) rfl; have y5 := hx1.cellv (i := 5) rfl; have y6 := hx1.cellv (i := 6) rfl; clear hF hR hT)
    | (go_at_call 15; (with_reducible refine (Dir_in h1 (by omega) (by omega)).mono ?_); rintro e w2 ⟨he, o2, h2, T2⟩; rw [← HB0.out] at he; subst he; have R2 := R1.turn h2.own T2 (by decide); have t2 := t1.turn h2.own T2 (by decide); clear h1 R1 t1)
    | (go_at_call 16; (with_reducible refine (RpDir_in R2 (by omega) (by omega)).mono ?_); rintro e w3 ⟨he, o3, R3, T3⟩; rw [← HB0.out] at he; subst he; have h3 := h2.turn R3.own T3 (by decide); have t3 := t2.turn R3.own T3 (by decide))
    | fail)
  go_ret
  exact ⟨rfl, _, o3, h3.more (by omega) (by omega), R3.more (by omega) (by omega), t3⟩
set_option maxRecDepth 100000 in
set_option maxHeartbeats 4000000 in
theorem step_d {p r q : Nat} {M Mo : FSs} {o : Own} {K L K' L' : Nat} {w0 w : World} {way : Int} {a t : Ky} {b : List UInt8} {op cut : Int} {keep : List Bool} {vb vk : Value} (H : StepIn p r q M Mo o K L K' L' w0 w a t b op cut keep vb vk)
    (n0 : way ≠ 0) (n1 : way ≠ 1) (n2 : way ≠ 2) (n3 : way ≠ 3) (n4 : way ≠ 4) (n5 : way ≠ 5) (n6 : way ≠ 6) :
    Calls Try.prog 27 #[.pointer (some ⟨p, 0, none⟩), .pointer (some ⟨r, 0, none⟩), .agg #[.int .i64 way, .string ⟨a.toArray⟩, .string ⟨t.toArray⟩, vb, .int .i64 op, .int .i64 cut, vk]] w (StepPost p r q Mo K L K' L' w0) := by
  have hbT := bytesTyC
  obtain ⟨hF, hR, hT, ho, hc, hb, hk, hs, hK, hL⟩ := H
  obtain ⟨sa, st, sb, sk⟩ := hs
  have HB := Lib.hid hb
  have HK := Lib.hid hk
  obtain ⟨Ab, nb, cb, rfl, hbn, hbc, hbm, _⟩ := hb
  obtain ⟨Ak, nk, ck, rfl, hkn, hkc, hkm, _⟩ := hk
  unfold maxLen at hbm hkm
  go_enter Try.func27, Try.ntmps27
  have e0 : (way == 0) = false := beq_eq_false_iff_ne.2 n0
  have d0 : decide (way = 0) = false := decide_eq_false n0
  have e1 : (way == 1) = false := beq_eq_false_iff_ne.2 n1
  have d1 : decide (way = 1) = false := decide_eq_false n1
  have e2 : (way == 2) = false := beq_eq_false_iff_ne.2 n2
  have d2 : decide (way = 2) = false := decide_eq_false n2
  have e3 : (way == 3) = false := beq_eq_false_iff_ne.2 n3
  have d3 : decide (way = 3) = false := decide_eq_false n3
  have e4 : (way == 4) = false := beq_eq_false_iff_ne.2 n4
  have d4 : decide (way = 4) = false := decide_eq_false n4
  have e5 : (way == 5) = false := beq_eq_false_iff_ne.2 n5
  have d5 : decide (way = 5) = false := decide_eq_false n5
  have e6 : (way == 6) = false := beq_eq_false_iff_ne.2 n6
  have d6 : decide (way = 6) = false := decide_eq_false n6
  go_wp2_with (first
    | ((with_reducible refine gd_box ?_); refine wpList_box_agg rfl _ (.tmp 2) rfl rfl ?_; intro w1 hx1 hb1 hl1; have h1 := hF.ext hb1; have R1 := hR.ext hb1; have t1 := hT.ext hb1; have G1 : LoneB o w1 w.heap.size 51 #[.int .i64 way, .string ⟨a.toArray⟩, .string ⟨t.toArray⟩, .slice Ab nb cb, .int .i64 op, .int .i64 cut, .slice Ak nk ck] := ⟨hx1, hF.own _ (Nat.le_refl _)⟩; have y0 := hx1.cellv (i := 0) rfl; have y1 := hx1.cellv (i := 1) rfl; have y2 := hx1.cellv (i := 2) rfl; have y3 := hx1.cellv (i := 3) rfl; have y4 := hx1.cellv (i := 4) rfl; have y5 := hx1.cellv (i := 5) rfl; have y6 := hx1.cellv (i := 6) rfl; clear hF hR hT)
    | (go_at_call 20; (with_reducible refine (Start_in h1).mono ?_); rintro e w2 ⟨rfl, h2, T2⟩; have R2 := R1.turn h2.own T2 (by decide); have t2 := t1.turn h2.own T2 (by decide))
    | (go_at_call 44; (with_reducible refine (RpStart_in R2).mono ?_); rintro e w3 ⟨rfl, R3, T3⟩; have h3 := h2.turn R3.own T3 (by decide); have t3 := t2.turn R3.own T3 (by decide))
    | fail)
  go_ret
  exact ⟨rfl, _, o, h3.more (by omega) (by omega), R3.more (by omega) (by omega), t3⟩
set_option maxRecDepth 100000 in
set_option maxHeartbeats 4000000 in
theorem step_0 {p r q : Nat} {M Mo : FSs} {o : Own} {K L K' L' : Nat} {w0 w : World} {a t : Ky} {b : List UInt8} {op cut : Int} {keep : List Bool} {vb vk : Value} (H : StepIn p r q M Mo o K L K' L' w0 w a t b op cut keep vb vk) :
    Calls Try.prog 27 #[.pointer (some ⟨p, 0, none⟩), .pointer (some ⟨r, 0, none⟩), .agg #[.int .i64 0, .string ⟨a.toArray⟩, .string ⟨t.toArray⟩, vb, .int .i64 op, .int .i64 cut, vk]] w (StepPost p r q Mo K L K' L' w0) := by
  have hbT := bytesTyC
  obtain ⟨hF, hR, hT, ho, hc, hb, hk, hs, hK, hL⟩ := H
  obtain ⟨sa, st, sb, sk⟩ := hs
  have HB := Lib.hid hb
  have HK := Lib.hid hk
  obtain ⟨Ab, nb, cb, rfl, hbn, hbc, hbm, _⟩ := hb
  obtain ⟨Ak, nk, ck, rfl, hkn, hkc, hkm, _⟩ := hk
  unfold maxLen at hbm hkm
  go_enter Try.func27, Try.ntmps27
  obtain ⟨B0, hB0⟩ : ∃ x, x = goesB M (appOk M a) := ⟨_, rfl⟩
  have HB0 := Lib.hid hB0
  have q0 : (B0 == B0) = true := by simp
  clear hB0
  go_wp2_with (first
    | ((with_reducible refine gd_box ?_); refine wpList_box_agg rfl _ (.tmp 2) rfl rfl ?_; intro w1 hx1 hb1 hl1; have h1 := hF.ext hb1; have R1 := hR.ext hb1; have t1 := hT.ext hb1; have G1 : LoneB o w1 w.heap.size 51 #[.int .i64 0, .string ⟨a.toArray⟩, .string ⟨t.toArray⟩, .slice Ab nb cb, .int .i64 op, .int .i64 cut, .slice Ak nk ck] := ⟨hx1, hF.own _ (Nat.le_refl _)⟩; have y0 := hx1.cellv (i := 0) rfl; have y1 := hx1.cellv (i := 1) rfl; have y2 := hx1.cellv (i := 2) rfl; have y3 := hx1.cellv (i := 3) rfl; have y4 := hx1.cellv (i := 4) rfl; have y5 := hx1.cellv (i := 5) rfl; have y6 := hx1.cellv (i := 6) rfl; clear hF hR hT)
    | (at_builtin; refine wpList_append_rd _ rfl (.const (.slice none 0 0)) (.tmp 27) _ rfl w1.heap.size _ _ 1 1 hbT (.slice none 0 0) 0 [] rfl (World.ownsRow_nil _ _ _ _) Ab nb cb (bv b) rfl (by rw [bv_length]; omega) (bytes_rd (HB.out.ext h1.below)) bv_one (by unfold maxLen; omega) (by omega) (Nat.le_refl _) ?_; intro v2 w2 hv2 hg2 hat2; replace hg2 : World.grownBy w1 w2 none := hg2; rw [List.nil_append, Nat.zero_add] at hv2; have hb2 : Below w1.heap.size w1 w2 := ⟨hg2.os, hg2.tape, hg2.output, hg2.size, fun k hk => hg2.block k hk (by simp)⟩; obtain ⟨o2, row2, T2, own2⟩ := RowK.fresh (k := 5) h1.own hb2 (Nat.le_refl _) hv2; have h2 := h1.turn own2 T2 (by decide); have R2 := R1.turn own2 T2 (by decide); have t2 := t1.turn own2 T2 (by decide); have G2 := G1.turn T2; have y0 := G2.blk.cellv (i := 0) rfl; have y1 := G2.blk.cellv (i := 1) rfl; have y2 := G2.blk.cellv (i := 2) rfl; have y3 := G2.blk.cellv (i := 3) rfl; have y4 := G2.blk.cellv (i := 4) rfl; have y5 := G2.blk.cellv (i := 5) rfl; have y6 := G2.blk.cellv (i := 6) rfl; clear h1 R1 t1 G1)
    | (go_at_call 11; (with_reducible refine (App_in h2 a (by omega) _ b (Bytes.own row2.row) (row2.free (by decide)) (by omega) (by omega) (by omega)).mono ?_); rintro e w3 ⟨he, o3, h3, T3⟩; rw [← HB0.out] at he; subst he; have R3 := R2.turn h3.own T3 (by decide); have t3 := t2.turn h3.own T3 (by decide); have G3 := G2.turn T3; have row3 := row2.turn T3 (by decide); clear h2 R2 t2 G2 row2)
    | fail)
  obtain ⟨Av, cv, rfl⟩ := row_slC row3.row
  obtain ⟨g, hgd⟩ : ∃ x, x = w.heap.size := ⟨_, rfl⟩
  rw [← hgd] at G3 ⊢
  clear hgd hx1 hb1 hl1 y0 y1 y2 y3 y4 y5 y6
  go_loopw [9] (fun iv wr => ∃ (i : Nat) (l : List UInt8), i ≤ nb ∧ iv = .int .i64 (i : Nat) ∧ FsIn 0 p (appM M a b) o3 (K + 2) (L + b.length) w0 wr ∧ RfIn 1 r M o3 K L w0 wr ∧ FsIn 2 q Mo o3 K' L' w0 wr ∧ LoneB o3 wr g 51 #[.int .i64 0, .string ⟨a.toArray⟩, .string ⟨t.toArray⟩, .slice Ab nb cb, .int .i64 op, .int .i64 cut, .slice Ak nk ck] ∧ RowK 5 o3 wr 0 5 1 (.slice Av nb cv) nb (bv l)) (fun iv _ => nb - (RowKit.intOf iv).toNat)
  case atStart => exact ⟨0, b, Nat.zero_le _, rfl, h3, R3, t3, G3, row3⟩
  case round =>
    clear h3 R3 t3 G3 row3
    obtain ⟨i, l, hi, rfl, hF, hR, hT, hG, hrow⟩ := hrel
    have hll : l.length = nb := by have := hrow.row.1; rw [bv_length] at this; omega
    by_cases hlt : i < nb
    · have f2 : decide ((i : Int) < (nb : Int)) = true := decide_eq_true (by omega)
      have i4 := Int.natCast_nonneg i
      have i5 : (i : Int) < (nb : Int) := by omega
      obtain ⟨gv, cur, eA, hbg, hxg, hjc, hset⟩ := own_byte hrow.row hlt
      obtain ⟨z, hz⟩ := byte_at hrow.row hlt
      have hz1 := hz gv eA
      have hvo := slice_own (n := nb) (c := cv) eA
      subst eA
      have qx := flip_u8 z
      have HSET := Lib.hid hset
      have HF := Lib.hid hF
      have HR := Lib.hid hR
      have HT := Lib.hid hT
      have HG := Lib.hid hG
      have HRW := Lib.hid hrow
      clear hset hz hF hR hT hG hrow
      go_wp2_with (first
        | ((with_reducible refine gd_store ?_); refine wpList_store_cell rfl 5 (.tmp 47) (.tmp 46) rfl (i := i) (v := .int .u8 ((z ^^^ 255).toNat : Int)) hxg hjc (by kernel_rfl) rfl rfl rfl ?_; intro w5 hx5 hg5)
        | fail)
      obtain ⟨row5, T5, own5⟩ := HRW.out.put HF.out.own hvo hg5 (HSET.out w5 (z ^^^ 255) hx5)
      have f5 := HF.out.turn own5 T5 (by decide)
      have r5 := HR.out.turn own5 T5 (by decide)
      have t5 := HT.out.turn own5 T5 (by decide)
      have g5 := HG.out.turn T5
      go_roundw
      case rel => first | exact ⟨i + 1, _, by omega, by go_num, f5, r5, t5, g5, row5⟩ | ((repeat apply Exists.intro); exact ⟨⟨i + 1, _, by omega, by go_num, f5, r5, t5, g5, row5⟩, rfl⟩)
      case measure => simp [RowKit.intOf]; omega
    · obtain rfl : i = nb := by omega
      have f2 : decide ((i : Int) < (i : Int)) = false := decide_eq_false (by omega)
      have y0 := hG.blk.cellv (i := 0) rfl
      have y1 := hG.blk.cellv (i := 1) rfl
      have y2 := hG.blk.cellv (i := 2) rfl
      have y3 := hG.blk.cellv (i := 3) rfl
      have y4 := hG.blk.cellv (i := 4) rfl
      have y5 := hG.blk.cellv (i := 5) rfl
      have y6 := hG.blk.cellv (i := 6) rfl
      go_wp2_with (first
        | (go_at_call 12; (with_reducible refine (RpApp_in hR a _ b (HB.out.ext hR.below) (Free.arg hR.base HB.out) (by omega) (by omega) (by omega)).mono ?_); rintro e w4 ⟨he, o4, R4, T4⟩; rw [← HB0.out] at he; subst he; have h4 := hF.turn R4.own T4 (by decide); have t4 := hT.turn R4.own T4 (by decide))
        | fail)
      go_ret
      exact ⟨by first | rfl | simp, _, o4, h4.more (by omega) (by omega), R4.more (by omega) (by omega), t4⟩
set_option maxRecDepth 100000 in
set_option maxHeartbeats 4000000 in
theorem step_1 {p r q : Nat} {M Mo : FSs} {o : Own} {K L K' L' : Nat} {w0 w : World} {a t : Ky} {b : List UInt8} {op cut : Int} {keep : List Bool} {vb vk : Value} (H : StepIn p r q M Mo o K L K' L' w0 w a t b op cut keep vb vk) :
    Calls Try.prog 27 #[.pointer (some ⟨p, 0, none⟩), .pointer (some ⟨r, 0, none⟩), .agg #[.int .i64 1, .string ⟨a.toArray⟩, .string ⟨t.toArray⟩, vb, .int .i64 op, .int .i64 cut, vk]] w (StepPost p r q Mo K L K' L' w0) := by
  have hbT := bytesTyC
  obtain ⟨hF, hR, hT, ho, hc, hb, hk, hs, hK, hL⟩ := H
  obtain ⟨sa, st, sb, sk⟩ := hs
  have HB := Lib.hid hb
  have HK := Lib.hid hk
  obtain ⟨Ab, nb, cb, rfl, hbn, hbc, hbm, _⟩ := hb
  obtain ⟨Ak, nk, ck, rfl, hkn, hkc, hkm, _⟩ := hk
  unfold maxLen at hbm hkm
  go_enter Try.func27, Try.ntmps27
  obtain ⟨B0, hB0⟩ : ∃ x, x = isB M a := ⟨_, rfl⟩
  have HB0 := Lib.hid hB0
  have q0 : (B0 == B0) = true := by simp
  obtain ⟨rl, hrl⟩ : ∃ x, x = readM M a := ⟨_, rfl⟩
  have HRL := Lib.hid hrl
  have s1 : ((⟨rl.toArray⟩ : ByteArray) == ⟨rl.toArray⟩) = true := by rw [str_eq]; simp
  clear hB0 hrl
  go_wp2_with (first
    | ((with_reducible refine gd_box ?_); refine wpList_box_agg rfl _ (.tmp 2) rfl rfl ?_; intro w1 hx1 hb1 hl1; have h1 := hF.ext hb1; have R1 := hR.ext hb1; have t1 := hT.ext hb1; have G1 : LoneB o w1 w.heap.size 51 #[.int .i64 1, .string ⟨a.toArray⟩, .string ⟨t.toArray⟩, .slice Ab nb cb, .int .i64 op, .int .i64 cut, .slice Ak nk ck] := ⟨hx1, hF.own _ (Nat.le_refl _)⟩; have y0 := hx1.cellv (i := 0) rfl; have y1 := hx1.cellv (i := 1) rfl; have y2 := hx1.cellv (i := 2) rfl; have y3 := hx1.cellv (i := 3) rfl; have y4 := hx1.cellv (i := 4) rfl; have y5 := hx1.cellv (i := 5) rfl; have y6 := hx1.cellv (i := 6) rfl; clear hF hR hT)
    | (go_at_call 21; (with_reducible refine (Read_in h1 a (by omega) (by omega)).mono ?_); rintro e w2 ⟨v2, he, hv2, hb2, _⟩; rw [← HB0.out] at he; subst he; rw [← HRL.out] at hv2; obtain ⟨Av, cv, rfl⟩ := row_slC hv2; obtain ⟨o2, row2, T2, own2⟩ := RowK.fresh (k := 5) h1.own hb2 (Nat.le_refl _) hv2; have h2 := h1.turn own2 T2 (by decide); have R2 := R1.turn own2 T2 (by decide); have t2 := t1.turn own2 T2 (by decide); have G2 := G1.turn T2; have y0 := G2.blk.cellv (i := 0) rfl; have y1 := G2.blk.cellv (i := 1) rfl; have y2 := G2.blk.cellv (i := 2) rfl; have y3 := G2.blk.cellv (i := 3) rfl; have y4 := G2.blk.cellv (i := 4) rfl; have y5 := G2.blk.cellv (i := 5) rfl; have y6 := G2.blk.cellv (i := 6) rfl; clear h1 R1 t1 G1 hv2)
    | (go_at_call 18; (with_reducible refine (RfRead_in R2 a (by omega)).mono ?_); rintro e w3 ⟨v3, he, hv3, hb3, R3⟩; rw [← HB0.out] at he; subst he; rw [← HRL.out] at hv3; obtain ⟨A3, c3, rfl⟩ := row_slC hv3; have h3 := h2.ext hb3; have t3 := t2.ext hb3; have G3 := G2.ext hb3; have row3 := row2.ext hb3; have q3 := run_str (P := Try.prog) (src := 26) (dst := 9) (Bytes.own row3.row) u8sTy u8Ty Try.underlying9; have q4 := run_str (P := Try.prog) (src := 26) (dst := 9) (Bytes.own hv3) u8sTy u8Ty Try.underlying9; clear h2 R2 t2 G2 row2)
    | fail)
  obtain ⟨g, hgd⟩ : ∃ x, x = w.heap.size := ⟨_, rfl⟩
  rw [← hgd] at G3
  obtain ⟨nb2, hnb2⟩ : ∃ x, x = rl.length := ⟨_, rfl⟩
  rw [← hnb2] at row3 ⊢
  have HNB2 := Lib.hid hnb2
  have hrb : nb2 ≤ 1000000000000 := by
    obtain ⟨φ, hr⟩ := h3.rel
    rw [hnb2, HRL.out]
    unfold readM
    split
    · split
      · rename_i i hg
        have := (hr.file i (.inl (hasId_get hg))).2
        omega
      · simp
    · simp
  clear hgd hx1 hb1 hl1 y0 y1 y2 y3 y4 y5 y6 hnb2 q3 q4 hv3
  go_loopw [15] (fun iv wr => ∃ (i : Nat) (l : List UInt8), i ≤ nb2 ∧ iv = .int .i64 (i : Nat) ∧ FsIn 0 p M o2 K L w0 wr ∧ RfIn 1 r M o2 K L w0 wr ∧ FsIn 2 q Mo o2 K' L' w0 wr ∧ LoneB o2 wr g 51 #[.int .i64 1, .string ⟨a.toArray⟩, .string ⟨t.toArray⟩, .slice Ab nb cb, .int .i64 op, .int .i64 cut, .slice Ak nk ck] ∧ RowK 5 o2 wr 0 5 1 (.slice Av nb2 cv) nb2 (bv l)) (fun iv _ => nb2 - (RowKit.intOf iv).toNat)
  case atStart => exact ⟨0, rl, Nat.zero_le _, rfl, h3, R3, t3, G3, row3⟩
  case round =>
    clear h3 R3 t3 G3 row3
    obtain ⟨i, l, hi, rfl, hF, hR, hT, hG, hrow⟩ := hrel
    have hll : l.length = nb2 := by have := hrow.row.1; rw [bv_length] at this; omega
    by_cases hlt : i < nb2
    · have f2 : decide ((i : Int) < (nb2 : Int)) = true := decide_eq_true (by omega)
      have i4 := Int.natCast_nonneg i
      have i5 : (i : Int) < (nb2 : Int) := by omega
      obtain ⟨gv, cur, eA, hbg, hxg, hjc, hset⟩ := own_byte hrow.row hlt
      obtain ⟨z, hz⟩ := byte_at hrow.row hlt
      have hz1 := hz gv eA
      have hvo := slice_own (n := nb2) (c := cv) eA
      subst eA
      have qx := flip_u8 z
      have HSET := Lib.hid hset
      have HF := Lib.hid hF
      have HR := Lib.hid hR
      have HT := Lib.hid hT
      have HG := Lib.hid hG
      have HRW := Lib.hid hrow
      clear hset hz hF hR hT hG hrow
      go_wp2_with (first
        | ((with_reducible refine gd_store ?_); refine wpList_store_cell rfl 5 (.tmp 90) (.tmp 89) rfl (i := i) (v := .int .u8 ((z ^^^ 255).toNat : Int)) hxg hjc (by kernel_rfl) rfl rfl rfl ?_; intro w5 hx5 hg5)
        | fail)
      obtain ⟨row5, T5, own5⟩ := HRW.out.put HF.out.own hvo hg5 (HSET.out w5 (z ^^^ 255) hx5)
      have f5 := HF.out.turn own5 T5 (by decide)
      have r5 := HR.out.turn own5 T5 (by decide)
      have t5 := HT.out.turn own5 T5 (by decide)
      have g5 := HG.out.turn T5
      go_roundw
      case rel => first | exact ⟨i + 1, _, by omega, by go_num, f5, r5, t5, g5, row5⟩ | ((repeat apply Exists.intro); exact ⟨⟨i + 1, _, by omega, by go_num, f5, r5, t5, g5, row5⟩, rfl⟩)
      case measure => simp [RowKit.intOf]; omega
    · obtain rfl : i = nb2 := by omega
      have f2 : decide ((i : Int) < (i : Int)) = false := decide_eq_false (by omega)
      go_wp2
      go_ret
      exact ⟨by first | rfl | simp, _, o2, hF.more (by omega) (by omega), hR.more (by omega) (by omega), hT⟩
set_option maxRecDepth 100000 in
set_option maxHeartbeats 4000000 in
theorem step_6 {p r q : Nat} {M Mo : FSs} {o : Own} {K L K' L' : Nat} {w0 w : World} {a t : Ky} {b : List UInt8} {op cut : Int} {keep : List Bool} {vb vk : Value} (H : StepIn p r q M Mo o K L K' L' w0 w a t b op cut keep vb vk) :
    Calls Try.prog 27 #[.pointer (some ⟨p, 0, none⟩), .pointer (some ⟨r, 0, none⟩), .agg #[.int .i64 6, .string ⟨a.toArray⟩, .string ⟨t.toArray⟩, vb, .int .i64 op, .int .i64 cut, vk]] w (StepPost p r q Mo K L K' L' w0) := by
  have hbT := bytesTyC
  obtain ⟨hF, hR, hT, ho, hc, hb, hk, hs, hK, hL⟩ := H
  obtain ⟨sa, st, sb, sk⟩ := hs
  have HB := Lib.hid hb
  have HK := Lib.hid hk
  obtain ⟨Ab, nb, cb, rfl, hbn, hbc, hbm, _⟩ := hb
  obtain ⟨Ak, nk, ck, rfl, hkn, hkc, hkm, _⟩ := hk
  unfold maxLen at hbm hkm
  go_enter Try.func27, Try.ntmps27
  have hbO := boolsTy
  have zC := zCrash
  have hCT := crashTy
  have hi3 : (Try.prog.info? 35).map (·.size) = some 3 := by kernel_rfl
  go_wp2_with (first
    | ((with_reducible refine gd_box ?_); refine wpList_box_agg rfl _ (.tmp 2) rfl rfl ?_; intro w1 hx1 hb1 hl1; have h1 := hF.ext hb1; have R1 := hR.ext hb1; have t1 := hT.ext hb1; have G1 : LoneB o w1 w.heap.size 51 #[.int .i64 6, .string ⟨a.toArray⟩, .string ⟨t.toArray⟩, .slice Ab nb cb, .int .i64 op, .int .i64 cut, .slice Ak nk ck] := ⟨hx1, hF.own _ (Nat.le_refl _)⟩; have y0 := hx1.cellv (i := 0) rfl; have y1 := hx1.cellv (i := 1) rfl; have y2 := hx1.cellv (i := 2) rfl; have y3 := hx1.cellv (i := 3) rfl; have y4 := hx1.cellv (i := 4) rfl; have y5 := hx1.cellv (i := 5) rfl; have y6 := hx1.cellv (i := 6) rfl; clear hF hR hT)
    | ((with_reducible refine gd_load ?_); refine wpList_load_mid rfl 35 (.tmp 143) rfl w.heap.size 4 rfl [.int .i64 op, .int .i64 cut, .slice Ak nk ck] _ (crash_cells y4 y5 y6) Try.underlying35 rfl hi3 ?_)
    | ((with_reducible refine gd_alloc ?_); refine wpList_alloc_blk rfl 35 rfl zC ?_; intro w2 hx2 hb2 hl2)
    | ((with_reducible refine gd_store ?_); refine wpList_store_all rfl 35 (.tmp 16) (.tmp 144) rfl #[.int .i64 op, .int .i64 cut, .slice Ak nk ck] hx2 hCT rfl rfl rfl rfl ?_; intro w3 hx3 hg3; have hb3 := below_blk hb2 hb2.size hg3 (Nat.le_refl _); obtain ⟨o3, C3, T3, own3⟩ := BlkK.fresh (k := 7) h1.own hb3 (Nat.le_refl _) hx3; have h3 := h1.turn own3 T3 (by decide); have R3 := R1.turn own3 T3 (by decide); have t3 := t1.turn own3 T3 (by decide); have G3 := G1.turn T3; have y0 := G3.blk.cellv (i := 0) rfl; have y1 := G3.blk.cellv (i := 1) rfl; have y2 := G3.blk.cellv (i := 2) rfl; have y3 := G3.blk.cellv (i := 3) rfl; have y4 := G3.blk.cellv (i := 4) rfl; have y5 := G3.blk.cellv (i := 5) rfl; have y6 := G3.blk.cellv (i := 6) rfl; clear h1 R1 t1 G1 hb3 hx3 T3 hg3 hb2 hx2)
    | (at_builtin; refine wpList_append_rd _ rfl (.const (.slice none 0 0)) (.tmp 147) _ rfl w3.heap.size _ _ 1 1 hbO (.slice none 0 0) 0 [] rfl (World.ownsRow_nil _ _ _ _) Ak nk ck (keep.map .bool) rfl (by rw [List.length_map]; omega) (bools_rd (HK.out.ext h3.below)) bools_one (by unfold maxLen; omega) (by omega) (Nat.le_refl _) ?_; intro v4 w4 hv4 hg4 hat4; replace hg4 : World.grownBy w3 w4 none := hg4; rw [List.nil_append, Nat.zero_add] at hv4; have hb4 : Below w3.heap.size w3 w4 := ⟨hg4.os, hg4.tape, hg4.output, hg4.size, fun k hk => hg4.block k hk (by simp)⟩; obtain ⟨Av, cv, rfl⟩ := row_slC hv4; obtain ⟨o4, row4, T4, own4⟩ := RowK.fresh (k := 5) h3.own hb4 (Nat.le_refl _) hv4; have h4 := h3.turn own4 T4 (by decide); have R4 := R3.turn own4 T4 (by decide); have t4 := t3.turn own4 T4 (by decide); have G4 := G3.turn T4; have C4 := C3.turn T4 (by decide); clear h3 R3 t3 G3 C3 hb4 hv4 T4 hg4 hat4)
    | ((with_reducible refine gd_store ?_); refine wpList_store_cell rfl 30 (.tmp 149) (.tmp 148) rfl (i := 2) (v := .slice Av nk cv) C4.blk (show 2 < 3 by decide) (by kernel_rfl) rfl rfl rfl ?_; intro w5 hx5 hg5; obtain ⟨C5, T5, own5⟩ := C4.put own4 hx5 hg5; have h5 := h4.turn own5 T5 (by decide); have R5 := R4.turn own5 T5 (by decide); have t5 := t4.turn own5 T5 (by decide); have G5 := G4.turn T5; have row5 := row4.turn T5 (by decide); clear h4 R4 t4 G4 C4 row4 T5 hg5 hx5)
    | ((with_reducible refine gd_load ?_); refine wpList_load_blk rfl 35 (.tmp 16) rfl C5.blk hCT rfl ?_)
    | (go_at_call 19; (with_reducible refine (Plan_in h5 op cut _ keep ho hc (bools_own hkn row5.row) (row5.free (by decide)) (by omega)).mono ?_); rintro e w6 ⟨rfl, o6, h6, T6⟩; have R6 := R5.turn h6.own T6 (by decide); have t6 := t5.turn h6.own T6 (by decide); have G6 := G5.turn T6; have C6 := C5.turn T6 (by decide); have row6 := row5.turn T6 (by decide); clear h5 R5 t5 G5 C5 row5 T6)
    | fail)
  obtain ⟨gc, hgc⟩ : ∃ x, x = w1.heap.size := ⟨_, rfl⟩
  rw [← hgc] at C6 ⊢
  obtain ⟨g, hgd⟩ : ∃ x, x = w.heap.size := ⟨_, rfl⟩
  rw [← hgd] at G6 ⊢
  clear hgd hgc hx1 hb1 hl1 y0 y1 y2 y3 y4 y5 y6
  go_loopw [17] (fun iv wr => ∃ (i : Nat) (l : List Bool), i ≤ nk ∧ iv = .int .i64 (i : Nat) ∧ FsIn 0 p (planM M op cut keep) o6 K L w0 wr ∧ RfIn 1 r M o6 K L w0 wr ∧ FsIn 2 q Mo o6 K' L' w0 wr ∧ LoneB o6 wr g 51 #[.int .i64 6, .string ⟨a.toArray⟩, .string ⟨t.toArray⟩, .slice Ab nb cb, .int .i64 op, .int .i64 cut, .slice Ak nk ck] ∧ BlkK 7 o6 wr gc 35 #[.int .i64 op, .int .i64 cut, .slice Av nk cv] ∧ RowK 5 o6 wr 0 4 1 (.slice Av nk cv) nk (l.map .bool)) (fun iv _ => nk - (RowKit.intOf iv).toNat)
  case atStart => exact ⟨0, keep, Nat.zero_le _, rfl, h6, R6, t6, G6, C6, row6⟩
  case round =>
    clear h6 R6 t6 G6 C6 row6
    obtain ⟨i, l, hi, rfl, hF, hR, hT, hG, hC, hrow⟩ := hrel
    have hll : l.length = nk := by have := hrow.row.1; rw [List.length_map] at this; omega
    have yc := hC.blk.cellv (i := 2) rfl
    by_cases hlt : i < nk
    · have f2 : decide ((i : Int) < (nk : Int)) = true := decide_eq_true (by omega)
      have i4 := Int.natCast_nonneg i
      have i5 : (i : Int) < (nk : Int) := by omega
      obtain ⟨gv, cur, bz, eA, _, hxg, hjc, hz1, hset⟩ := own_bool hrow.row hlt
      have hvo := slice_own (n := nk) (c := cv) eA
      subst eA
      have HSET := Lib.hid hset
      have HF := Lib.hid hF
      have HR := Lib.hid hR
      have HT := Lib.hid hT
      have HG := Lib.hid hG
      have HC := Lib.hid hC
      have HRW := Lib.hid hrow
      clear hset hF hR hT hG hrow hC
      go_upto_region 36 with (fail)
      go_still_tail 10, (by kernel_rfl)
      refine wpList_store_cell rfl 4 (.tmp 169) (.tmp 168) rfl (w := wr.drew) (i := i) (v := .bool !bz) hxg.drew hjc (by kernel_rfl) rfl rfl rfl ?_
      intro w5 hx5 hg5
      have hg5' : wr.grownBy w5 (some gv) := ⟨hg5.os, hg5.tape, hg5.output, hg5.size, hg5.block⟩
      obtain ⟨row5, T5, own5⟩ := HRW.out.put HF.out.own hvo hg5' (HSET.out w5 (!bz) hx5)
      have f5 := HF.out.turn own5 T5 (by decide)
      have r5 := HR.out.turn own5 T5 (by decide)
      have t5 := HT.out.turn own5 T5 (by decide)
      have g5 := HG.out.turn T5
      have c5 := HC.out.turn T5 (by decide)
      go_wp2
      go_roundw
      case rel => first | exact ⟨i + 1, _, by omega, by go_num, f5, r5, t5, g5, c5, row5⟩ | ((repeat apply Exists.intro); exact ⟨⟨i + 1, _, by omega, by go_num, f5, r5, t5, g5, c5, row5⟩, rfl⟩)
      case measure => simp [RowKit.intOf]; omega
    · obtain rfl : i = nk := by omega
      have f2 : decide ((i : Int) < (i : Int)) = false := decide_eq_false (by omega)
      have y0 := hG.blk.cellv (i := 0) rfl
      have y1 := hG.blk.cellv (i := 1) rfl
      have y2 := hG.blk.cellv (i := 2) rfl
      have y3 := hG.blk.cellv (i := 3) rfl
      have y4 := hG.blk.cellv (i := 4) rfl
      have y5 := hG.blk.cellv (i := 5) rfl
      have y6 := hG.blk.cellv (i := 6) rfl
      go_wp2_with (first
        | ((with_reducible refine gd_load ?_); refine wpList_load_mid rfl 35 (.tmp 171) rfl g 4 rfl [.int .i64 op, .int .i64 cut, .slice Ak i ck] _ (crash_cells y4 y5 y6) Try.underlying35 rfl hi3 ?_)
        | (go_at_call 43; (with_reducible refine (RpPlan_in hR op cut _ keep ho hc (HK.out.ext hR.below) (Free.argB hR.base HK.out) (by omega)).mono ?_); rintro e w7 ⟨rfl, o7, R7, T7⟩; have h7 := hF.turn R7.own T7 (by decide); have t7 := hT.turn R7.own T7 (by decide))
        | fail)
      go_ret
      exact ⟨rfl, _, o7, h7.more (by omega) (by omega), R7.more (by omega) (by omega), t7⟩
theorem step_any {p r q : Nat} {M Mo : FSs} {o : Own} {K L K' L' : Nat} {w0 w : World} {way : Int} {a t : Ky} {b : List UInt8} {op cut : Int} {keep : List Bool} {vb vk : Value} (H : StepIn p r q M Mo o K L K' L' w0 w a t b op cut keep vb vk) :
    Calls Try.prog 27 #[.pointer (some ⟨p, 0, none⟩), .pointer (some ⟨r, 0, none⟩), .agg #[.int .i64 way, .string ⟨a.toArray⟩, .string ⟨t.toArray⟩, vb, .int .i64 op, .int .i64 cut, vk]] w (StepPost p r q Mo K L K' L' w0) := by
  by_cases e0 : way = 0
  · subst e0; exact step_0 H
  by_cases e1 : way = 1
  · subst e1; exact step_1 H
  by_cases e2 : way = 2
  · subst e2; exact step_2 H
  by_cases e3 : way = 3
  · subst e3; exact step_3 H
  by_cases e4 : way = 4
  · subst e4; exact step_4 H
  by_cases e5 : way = 5
  · subst e5; exact step_5 H
  by_cases e6 : way = 6
  · subst e6; exact step_6 H
  exact step_d H e0 e1 e2 e3 e4 e5 e6
end Go.Mun

