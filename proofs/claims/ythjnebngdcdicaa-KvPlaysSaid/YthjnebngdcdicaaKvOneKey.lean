/- One key that is written often. -/
import Derived.Test.YthjnebngdcdicaaKvSame
namespace Go.Mun
open Go Go.RowKit Go.Proofs Go.Maps

/-- the pairs behind i writes of z bytes -/
structure OneKey (i z : Nat) (S : PLB) : Prop where
  ex : (i = 0 ∧ S = []) ∨ (0 < i ∧ ∃ V : List UInt8, S = [([107], V)] ∧ V.length = z ∧ (0 < z → V[0]? = some (UInt8.ofNat (i - 1))))
def oneOp (V : List UInt8) : List Rec := [⟨1, false, [107], V, 0⟩]
theorem oneKey_zero (z : Nat) : OneKey 0 z [] := ⟨.inl ⟨rfl, rfl⟩⟩
theorem setP_one (V : List UInt8) (S : PLB) (h : S = [] ∨ ∃ U, S = [([107], U)]) : doneP S (oneOp V) = [([107], V)] := by
  rcases h with rfl | ⟨U, rfl⟩
  · rfl
  · rfl
theorem OneKey.step {i z : Nat} {S : PLB} (h : OneKey i z S) {V : List UInt8} (hl : V.length = z) (h0 : 0 < z → V[0]? = some (UInt8.ofNat i)) : doneP S (oneOp V) = [([107], V)] ∧ OneKey (i + 1) z (doneP S (oneOp V)) := by
  have e : doneP S (oneOp V) = [([107], V)] := setP_one V S (h.ex.imp (·.2) (fun ⟨_, U, e, _⟩ => ⟨U, e⟩))
  rw [e]
  exact ⟨rfl, ⟨.inr ⟨Nat.succ_pos _, V, rfl, hl, h0⟩⟩⟩
theorem OneKey.fit {i z : Nat} {S : PLB} (h : OneKey i z S) (hz : z ≤ 500) : FitS S := by
  rcases h.ex with ⟨_, rfl⟩ | ⟨_, V, rfl, hl, _⟩
  · exact ⟨List.Pairwise.nil, Nat.zero_le _, fun e he => absurd he List.not_mem_nil⟩
  · exact ⟨List.pairwise_singleton _ _, by simp, fun e he => by rw [List.mem_singleton.1 he]; exact ⟨by simp, by simp only; omega⟩⟩
theorem oneOp_wide {V : List UInt8} (h : V.length ≤ 500) : WideL (oneOp V) := ⟨by simp [oneOp], fun r hr => by rw [List.mem_singleton.1 hr]; exact ⟨rfl, rfl, by simp, by show V.length ≤ 600; omega⟩⟩
theorem oneOp_batch {V : List UInt8} (h : V.length ≤ 500) : (batchB (oneOp V)).length ≤ 528 := by
  have h1 := batch_len (oneOp_wide h)
  have h2 := opsB_le (c := 515) (l := oneOp V) fun r hr => ⟨(oneOp_wide h).2 r hr, by rw [List.mem_singleton.1 hr]; simp only [List.length_singleton]; omega⟩
  simp only [oneOp, List.length_singleton] at h2
  simp only [oneOp] at h1 ⊢
  omega
theorem one_whole {V : List UInt8} (h : V.length ≤ 500) : (wholeB [([107], V)]).length ≤ 41 + V.length := by
  have h1 := whole_le (c := 15 + V.length) (S := [([107], V)]) ⟨List.pairwise_singleton _ _, by simp, fun e he => by rw [List.mem_singleton.1 he]; exact ⟨by simp, by simp only; omega⟩⟩ fun e he => by rw [List.mem_singleton.1 he]; simp
  simp only [List.length_singleton] at h1
  omega
section
variable {k j p q n B N K L : Nat} {M : FSs} {S : PLB} {clean : Bool} {o : Own} {w0 w : World}
theorem UpK.more {n' B' K' L' : Nat} (h : UpK k j p q M S clean n B N K L o w0 w) (hn : n ≤ n') (hB : B ≤ B') (hK : K ≤ K') (hL : L ≤ L') : UpK k j p q M S clean n' B' N K' L' o w0 w := ⟨h.fs.more hK hL, h.kv, h.st.mono hn hB, h.dead, h.op, h.only⟩
/-- behind i writes -/
structure OneSt (p q i z : Nat) (S : PLB) (w0 w : World) : Prop where
  ex : ∃ M clean N o, N ≤ i ∧ UpK 0 1 p q M S clean (i + 1) (528 * i + 600) N (10 * i) (60000 * i) o w0 w
theorem OneSt.below {i z : Nat} (h : OneSt p q i z S w0 w) : Below w0.heap.size w0 w := by
  obtain ⟨M, c, N, o, _, h⟩ := h.ex
  exact h.fs.below
theorem OneSt.ext {i z : Nat} {w' : World} (h : OneSt p q i z S w0 w) (hb : Below w.heap.size w w') : OneSt p q i z S w0 w' := by
  obtain ⟨M, c, N, o, hN, h⟩ := h.ex
  exact ⟨M, c, N, o, hN, h.ext hb⟩
theorem One_open (h : Up 0 p newM [] 1 0 0 0 o w0 w) (z : Nat) :
    Calls Try.prog 11 #[.pointer (some ⟨p, 0, none⟩)] w fun e w' => ∃ q, e = .returned (.tuple #[.pointer (some ⟨q, 0, none⟩), .int .i64 0]) ∧ OneSt p q 0 z [] w0 w' := by
  refine (Open_up (j := 1) h ((oneKey_zero 0).fit (by decide)) (by decide) (by decide) (by decide) (by decide)).mono ?_
  rintro e w' ⟨q, he, clean, o', h1, _, _⟩
  exact ⟨q, he, _, _, _, o', Nat.le_refl _, h1.more (by decide) (by decide) (by decide) (by decide)⟩
theorem One_write {i z : Nat} {vl : Value} {V : List UInt8} (h : OneSt p q i z S w0 w) (ho : OneKey i z S) (hi : i < 100) (hz : z ≤ 500) (hl : SliceOf 3 rOp w vl (oneOp V)) (hV : V.length = z) (h0 : 0 < z → V[0]? = some (UInt8.ofNat i)) :
    Calls Try.prog 12 #[.pointer (some ⟨q, 0, none⟩), vl] w fun e w' => e = .returned (.int .i64 0) ∧ ∃ S', OneKey (i + 1) z S' ∧ OneSt p q (i + 1) z S' w0 w' := by
  obtain ⟨M, c, N, o, hN, h⟩ := h.ex
  obtain ⟨e1, e2⟩ := ho.step hV h0
  have hb := oneOp_batch (V := V) (by omega)
  have hw := one_whole (V := V) (by omega)
  refine (Write_up (B' := 528 * (i + 1) + 600) h (by decide) hl (oneOp_wide (by omega)) (e2.fit hz) (by omega) (by omega) (by omega) (by omega) (by omega) (by rw [e1]; omega)).mono ?_
  rintro e w' ⟨he, M', o1, o', w1, h1, _, _⟩
  exact ⟨he, _, e2, M', _, _, o', by simp only [oneOp, List.length_singleton]; omega, h1.more (by omega) (by omega) (by omega) (by omega)⟩
/-- behind the Compact, and a value that was told -/
structure OneEndV (p q z : Nat) (V : List UInt8) (v : Value) (w0 w : World) : Prop where
  ex : ∃ M clean N o, UpK 0 1 p q M [([107], V)] clean 102 (41 + z) N 1010 7000000 o w0 w ∧ Lone o w v V
/-- behind the Compact -/
structure OneEnd (p q z : Nat) (V : List UInt8) (w0 w : World) : Prop where
  ex : ∃ M clean N o, UpK 0 1 p q M [([107], V)] clean 102 (41 + z) N 1010 7000000 o w0 w
theorem One_compact {i z : Nat} {V : List UInt8} (h : OneSt p q i z [([107], V)] w0 w) (hi : i ≤ 100) (hz : z ≤ 500) (hV : V.length = z) :
    Calls Try.prog 16 #[.pointer (some ⟨q, 0, none⟩)] w fun e w' => e = .returned (.int .i64 0) ∧ OneEnd p q z V w0 w' := by
  obtain ⟨M, c, N, o, hN, h⟩ := h.ex
  have hw := one_whole (V := V) (by omega)
  refine (Compact_up h (by decide) (by omega) (by omega) (by omega)).mono ?_
  rintro e w' ⟨he, M', o1, o', w1, h1, _, _⟩
  exact ⟨he, M', _, _, o', h1.more (by omega) (by omega) (by omega) (by omega)⟩
theorem OneEnd.ext {z : Nat} {V : List UInt8} {w' : World} (h : OneEnd p q z V w0 w) (hb : Below w.heap.size w w') : OneEnd p q z V w0 w' := by
  obtain ⟨M, c, N, o, h⟩ := h.ex
  exact ⟨M, c, N, o, h.ext hb⟩
theorem OneEnd.below {z : Nat} {V : List UInt8} (h : OneEnd p q z V w0 w) : Below w0.heap.size w0 w := by
  obtain ⟨M, c, N, o, h⟩ := h.ex
  exact h.fs.below
theorem OneEndV.end_ {z : Nat} {V : List UInt8} {v : Value} (h : OneEndV p q z V v w0 w) : OneEnd p q z V w0 w := by
  obtain ⟨M, c, N, o, h, _⟩ := h.ex
  exact ⟨M, c, N, o, h⟩
theorem OneEndV.ext {z : Nat} {V : List UInt8} {v : Value} {w' : World} (h : OneEndV p q z V v w0 w) (hb : Below w.heap.size w w') : OneEndV p q z V v w0 w' := by
  obtain ⟨M, c, N, o, h, h2⟩ := h.ex
  exact ⟨M, c, N, o, h.ext hb, h2.ext hb⟩
theorem OneEndV.first {z c : Nat} {V : List UInt8} {A : Option Addr} (h : OneEndV p q z V (.slice A z c) w0 w) {i : Nat} (h0 : V[0]? = some (UInt8.ofNat (i - 1))) (hi : i ≤ 100) (h1 : 1 ≤ i) : ∃ ad, A = some ad ∧ w.cell? ad = some (.int .u8 ((i : Int) - 1)) := by
  obtain ⟨M, c, N, o, _, h2⟩ := h.ex
  obtain ⟨A', n, c', e, _, _, _, hr⟩ := h2.bytes
  injection e with e1 e2 e3
  subst e1
  obtain ⟨ad, hA, hc⟩ := hr 0 (.int .u8 (((UInt8.ofNat (i - 1)).toNat : Nat) : Int)) (by unfold bv; rw [List.getElem?_map, h0]; rfl)
  refine ⟨ad, hA, ?_⟩
  rw [show ad.add 0 = ad by obtain ⟨b, o, m⟩ := ad; unfold Addr.add; simp] at hc
  rw [hc, show (((UInt8.ofNat (i - 1)).toNat : Nat) : Int) = (i : Int) - 1 by simp; omega]
theorem OneEnd_get {z : Nat} {V : List UInt8} (h : OneEnd p q z V w0 w) (hV : V.length = z) (kv : Value) (hk : Bytes w kv [107]) :
    Calls Try.prog 14 #[.pointer (some ⟨q, 0, none⟩), kv] w fun e w' => ∃ A c, e = .returned (.tuple #[.slice A z c, .bool true]) ∧ OneEndV p q z V (.slice A z c) w0 w' := by
  obtain ⟨M, c, N, o, h⟩ := h.ex
  subst hV
  refine (Get_some h.kv kv [107] V hk rfl).mono ?_
  rintro e w' ⟨v, h1, h2, h3⟩
  obtain ⟨A, c2, rfl⟩ := own_sl h2
  exact ⟨A, c2, h1, M, c, N, o, h.ext h3, Lone.own h.fs.own (Nat.le_refl _) h2⟩
theorem OneEnd_pairs {z : Nat} {V : List UInt8} (h : OneEnd p q z V w0 w) :
    Calls Try.prog 22 #[.pointer (some ⟨q, 0, none⟩)] w fun e w' => ∃ v, e = .returned v ∧ SliceOf 2 rPair w' v [([107], V)] ∧ Below w.heap.size w w' := by
  obtain ⟨M, c, N, o, h⟩ := h.ex
  exact (Pairs_any h.kv).mono fun _ _ ⟨v, h1, h2, h3⟩ => ⟨v, h1, h2.slice, h3⟩
theorem OneEnd_bytes {z : Nat} {V : List UInt8} (h : OneEnd p q z V w0 w) (hz : z ≤ 500) :
    Calls Try.prog 17 #[.pointer (some ⟨q, 0, none⟩)] w fun e w' => ∃ m : Nat, e = .returned (.int .i64 (m : Int)) ∧ m ≤ 41 + z ∧ Below w.heap.size w w' := by
  obtain ⟨M, c, N, o, h⟩ := h.ex
  have := h.up.read
  exact (Bytes_up h (by omega) (by omega)).mono fun _ _ ⟨h1, h2⟩ => ⟨_, h1, this, h2⟩
theorem OneEnd_open {z : Nat} {V : List UInt8} {v : Value} (h : OneEndV p q z V v w0 w) (hz : z ≤ 500) :
    Calls Try.prog 11 #[.pointer (some ⟨p, 0, none⟩)] w fun e w' => ∃ q2, e = .returned (.tuple #[.pointer (some ⟨q2, 0, none⟩), .int .i64 0]) ∧ OneEndV p q z V v w0 w' ∧ ∃ c N o', KvAt 2 q2 p [([107], V)] c false o' N w' := by
  obtain ⟨M, c, N, o, h, hl⟩ := h.ex
  refine (Open_up (j := 2) h.up h.kv.fit (by decide) (by omega) (by omega) (by omega)).mono ?_
  rintro e w' ⟨q2, he, clean, o', h1, h2, _⟩
  exact ⟨q2, he, ⟨M, c, N, o', ⟨h1.fs, h.kv.turn h2 (by decide), h.st, h.dead, h.op, h.only⟩, hl.turn h2⟩, _, _, o', h1.kv⟩
end
end Go.Mun
