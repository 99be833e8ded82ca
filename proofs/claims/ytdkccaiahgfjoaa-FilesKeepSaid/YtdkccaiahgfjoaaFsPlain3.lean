/- Files, plainly: what is read behind a loss of power. -/
import Derived.Test.YtdkccaiahgfjoaaFsPlain2
import Derived.Test.YtdkccaiahgfjoaaFsAlive
namespace Go.Mun
open Go Go.RowKit Go.Maps

theorem cut0 (l : List UInt8) : cutF 0 ⟨l, l.length⟩ = ⟨l, l.length⟩ := by
  have e : cutAt 0 ⟨l, l.length⟩ = l.length := by unfold cutAt; simp
  unfold cutF
  rw [e]
  simp
theorem hasId_get {P : PL Nat} {n : Ky} {i : Nat} (h : getP P n = some i) : hasId P i := ⟨(n, i), getP_mem h, rfl⟩
theorem crash_isB {M : FSs} {n : Ky} {i : Nat} (h : getP (left M) n = some i) : isB (startM (crashM M)) n = true := by
  show (!false && (getP (left M) n).isSome) = true
  rw [h]
  rfl
theorem crash_isB_no {M : FSs} {n : Ky} (h : getP (left M) n = none) : isB (startM (crashM M)) n = false := by
  show (!false && (getP (left M) n).isSome) = false
  rw [h]
  rfl
theorem crash_read {M : FSs} {n : Ky} {i : Nat} {l : List UInt8} (h : getP (left M) n = some i) (hf : M.fs i = ⟨l, l.length⟩) (hc : M.cut = 0) : readM (startM (crashM M)) n = l := by
  unfold readM
  rw [if_pos (crash_isB h)]
  show (match getP (left M) n with | some i => ((crashM M).fs i).b | none => []) = l
  rw [h]
  show ((crashM M).fs i).b = l
  rw [crash_fs (hasId_get h), hf, hc, cut0]
theorem crash_read_no {M : FSs} {n : Ky} (h : getP (left M) n = none) : readM (startM (crashM M)) n = [] := by
  unfold readM
  rw [if_neg (by rw [crash_isB_no h]; simp)]
theorem app_off {M : FSs} {n : Ky} {b : List UInt8} (h : appOk M n = true) (ho : M.op = 0) : appM M n b = crashM M := by
  unfold appM
  rw [thenM_off h (failsB_yes ho)]
  exact if_pos ho
theorem dir_off {M : FSs} (h : M.dead = false) (ho : M.op = 0) : dirM M = crashM M := by
  unfold dirM
  rw [thenM_off (by rw [h]; rfl) (failsB_yes ho)]
  exact if_pos ho
theorem read_cast {w : World} {base : Nat} {e : TypeId} {v : Value} {M : FSs} {n : Ky} {l : List UInt8} (h : w.ownsRow base e 1 v (readM M n).length (bv (readM M n))) (hl : readM M n = l) : w.ownsRow base e 1 v l.length (bv l) := by rw [hl] at h; exact h
/-- bytes that lie where k's files do not -/
structure Held (k : Nat) (o : Own) (w : World) (v : Value) (l : List UInt8) : Prop where
  bytes : Bytes w v l
  free : Free o k v
theorem bytes_lt {w : World} {ad : Addr} {n c : Nat} {l : List UInt8} (h : Bytes w (.slice (some ad) n c) l) (hn : 0 < n) : ad.block < w.heap.size := by
  obtain ⟨A, n', c', e', h1, _, _, h4⟩ := h
  injection e' with e1 e2 e3
  subst e1 e2
  obtain ⟨u, hu⟩ : ∃ u, (bv l)[0]? = some u := ⟨_, List.getElem?_eq_getElem (by rw [bv_length]; omega)⟩
  obtain ⟨ad', e5, hc⟩ := h4 0 u hu
  injection e5 with e5
  subst e5
  have := World.block_lt_of_cell? w _ hc
  rwa [add_block] at this
theorem Held.turn {k : Nat} {o o' : Own} {w w' : World} {v : Value} {l : List UInt8} (h : Held k o w v l) (hT : Turn k o o' w w') : Held k o' w' v l :=
  ⟨h.bytes.turn hT h.free, fun ad n c e hn t => by
    have hb := h.bytes
    rw [e] at hb
    rw [hT.old _ (bytes_lt hb hn)]
    exact h.free ad n c e hn t⟩
theorem Held.ext {k : Nat} {o : Own} {w w' : World} {v : Value} {l : List UInt8} (h : Held k o w v l) (hb : Below w.heap.size w w') : Held k o w' v l := ⟨h.bytes.ext hb, h.free⟩
theorem Held.own {k : Nat} {o : Own} {w w' : World} {e : TypeId} {v : Value} {n : Nat} {l : List UInt8} (ho : OwnIn o w) (h : w'.ownsRow w.heap.size e 1 v n (bv l)) : Held k o w' v l :=
  ⟨Bytes.own h, fun ad n' c ev _ t => by
    rcases h.2 with ⟨e1, _⟩ | ⟨g, cap, cur, e1, hb, _⟩
    · rw [ev] at e1; cases e1
    · rw [ev] at e1
      injection e1 with e1
      injection e1 with e1
      rw [e1, ho _ hb]
      simp⟩
abbrev cNew : Ky := [110, 101, 119]
abbrev cOld : Ky := [111, 108, 100]
abbrev cZ : Ky := [122]
end Go.Mun
