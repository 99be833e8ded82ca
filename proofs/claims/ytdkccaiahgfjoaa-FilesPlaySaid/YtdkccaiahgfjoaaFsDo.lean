/- What a change does to names: names.do. -/
import Derived.Test.YtdkccaiahgfjoaaFsRead
namespace Go.Mun
open Go Go.RowKit Go.Proofs Go.Maps

theorem as_made_made (v : Value) (w : World) : (Instr.typeAssert (.iface 65 v) 87 65 true).run Try.prog w = .ok (.tuple #[v, .bool true]) w := by kernel_rfl
theorem as_made_renamed (v : Value) (w : World) : (Instr.typeAssert (.iface 65 v) 87 86 true).run Try.prog w = .ok (.tuple #[.agg #[.string ⟨#[]⟩, .string ⟨#[]⟩], .bool false]) w := by kernel_rfl
theorem as_made_deleted (v : Value) (w : World) : (Instr.typeAssert (.iface 65 v) 87 84 true).run Try.prog w = .ok (.tuple #[.agg #[.string ⟨#[]⟩], .bool false]) w := by kernel_rfl
theorem as_renamed_made (v : Value) (w : World) : (Instr.typeAssert (.iface 86 v) 87 65 true).run Try.prog w = .ok (.tuple #[.agg #[.string ⟨#[]⟩, .pointer none], .bool false]) w := by kernel_rfl
theorem as_renamed_renamed (v : Value) (w : World) : (Instr.typeAssert (.iface 86 v) 87 86 true).run Try.prog w = .ok (.tuple #[v, .bool true]) w := by kernel_rfl
theorem as_renamed_deleted (v : Value) (w : World) : (Instr.typeAssert (.iface 86 v) 87 84 true).run Try.prog w = .ok (.tuple #[.agg #[.string ⟨#[]⟩], .bool false]) w := by kernel_rfl
theorem as_deleted_made (v : Value) (w : World) : (Instr.typeAssert (.iface 84 v) 87 65 true).run Try.prog w = .ok (.tuple #[.agg #[.string ⟨#[]⟩, .pointer none], .bool false]) w := by kernel_rfl
theorem as_deleted_renamed (v : Value) (w : World) : (Instr.typeAssert (.iface 84 v) 87 86 true).run Try.prog w = .ok (.tuple #[.agg #[.string ⟨#[]⟩, .string ⟨#[]⟩], .bool false]) w := by kernel_rfl
theorem as_deleted_deleted (v : Value) (w : World) : (Instr.typeAssert (.iface 84 v) 87 84 true).run Try.prog w = .ok (.tuple #[v, .bool true]) w := by kernel_rfl

theorem grown_via {w w2 w3 : World} {r : Option Nat} (hb : Below w.heap.size w w2) (hg : w2.grownBy w3 r) : w.grownBy w3 r :=
  ⟨hg.os.trans hb.os, hg.tape.trans hb.tape, hg.output.trans hb.output, Nat.le_trans hb.size hg.size, fun k hk hn => (hg.block k (Nat.lt_of_lt_of_le hk hb.size) hn).trans (hb.block k hk)⟩
theorem madeTy : AggTy Try.prog 65 2 := ⟨⟨_, Try.underlying65, rfl⟩, by kernel_rfl⟩
theorem renTy : AggTy Try.prog 86 2 := ⟨⟨_, Try.underlying86, rfl⟩, by kernel_rfl⟩
theorem delTy : AggTy Try.prog 84 1 := ⟨⟨_, Try.underlying84, rfl⟩, by kernel_rfl⟩
theorem zMade : (Try.prog.info? 65).bind (·.zero) = some (.agg #[.string ⟨#[]⟩, .pointer none]) := by kernel_rfl
theorem zRen : (Try.prog.info? 86).bind (·.zero) = some (.agg #[.string ⟨#[]⟩, .string ⟨#[]⟩]) := by kernel_rfl
theorem zDel : (Try.prog.info? 84).bind (·.zero) = some (.agg #[.string ⟨#[]⟩]) := by kernel_rfl
section
variable {φ : Nat → Nat} {P : PL Nat} {b N : Nat} {w : World}
set_option maxRecDepth 100000 in
theorem do_made (h : MapV w b (idT φ P) N) (hN : N ≤ 1000000000) (n : Ky) (i : Nat) (hn : n.length ≤ 1000000) :
    Calls Try.prog 45 #[.map (some b), chgV φ (.made n i)] w fun e w' => e = .returned (.tuple #[]) ∧ MapV w' b (idT φ (doC P (.made n i))) (N + 1) ∧ w.grownBy w' (some b) := by
  have hm : n.length ≤ maxLen := by unfold maxLen; omega
  have a1 := as_made_made (.agg #[.string ⟨n.toArray⟩, .pointer (some ⟨φ i, 0, none⟩)])
  have hT := madeTy
  have zM := zMade
  unfold chgV
  go_enter Try.func45, Try.ntmps45
  go_wp2_with (first
    | ((with_reducible refine gd_alloc ?_); refine wpList_alloc_blk rfl 65 rfl zM ?_; intro w1 hx1 hb1 hl1; have hM1 := h.ext hb1)
    | ((with_reducible refine gd_store ?_); refine wpList_store_all rfl 65 (.tmp 4) (.tmp 11) rfl #[.string ⟨n.toArray⟩, .pointer (some ⟨φ i, 0, none⟩)] hx1 hT rfl rfl rfl rfl ?_; intro w2 hx2 hg2; have hb2 := below_blk hb1 hb1.size hg2 (Nat.le_refl _); have hM2 := h.ext hb2; have y0 := hx2.cellv (i := 0) rfl; have y1 := hx2.cellv (i := 1) rfl)
    | (at_mapUpdate; refine wpList_put_map rfl (.tmp 12) (.tmp 14) (.tmp 16) _ _ rfl namesTy rfl hM2 (by unfold maxLen; omega) hm rfl rfl i ?_; intro w3 hM3 hg3)
    | fail)
  go_end0
  refine ⟨rfl, ?_, grown_via hb2 hg3⟩
  show MapV w3 b (idT φ (setP P n (some i))) (N + 1)
  rw [idT_set]
  exact hM3
set_option maxRecDepth 100000 in
theorem do_del (h : MapV w b (idT φ P) N) (n : Ky) (hn : n.length ≤ 1000000) :
    Calls Try.prog 45 #[.map (some b), chgV φ (.del n)] w fun e w' => e = .returned (.tuple #[]) ∧ MapV w' b (idT φ (doC P (.del n))) N ∧ w.grownBy w' (some b) := by
  have hm : n.length ≤ maxLen := by unfold maxLen; omega
  have a1 := as_deleted_made (.agg #[.string ⟨n.toArray⟩])
  have a2 := as_deleted_renamed (.agg #[.string ⟨n.toArray⟩])
  have a3 := as_deleted_deleted (.agg #[.string ⟨n.toArray⟩])
  have hT := delTy
  have zM := zDel
  unfold chgV
  go_enter Try.func45, Try.ntmps45
  go_wp2_with (first
    | ((with_reducible refine gd_alloc ?_); refine wpList_alloc_blk rfl 84 rfl zM ?_; intro w1 hx1 hb1 hl1; have hM1 := h.ext hb1)
    | ((with_reducible refine gd_store ?_); refine wpList_store_all rfl 84 (.tmp 7) (.tmp 33) rfl #[.string ⟨n.toArray⟩] hx1 hT rfl rfl rfl rfl ?_; intro w2 hx2 hg2; have hb2 := below_blk hb1 hb1.size hg2 (Nat.le_refl _); have hM2 := h.ext hb2; have y0 := hx2.cellv (i := 0) rfl)
    | (at_delete; refine wpList_del_map rfl (.tmp 34) (.tmp 36) _ _ rfl namesTy rfl hM2 hm rfl ?_; intro w3 hM3 hg3)
    | fail)
  go_end0
  refine ⟨rfl, ?_, grown_via hb2 hg3⟩
  show MapV w3 b (idT φ (setP P n none)) N
  rw [idT_del]
  exact hM3
set_option maxRecDepth 100000 in
theorem do_ren (h : MapV w b (idT φ P) N) (hN : N ≤ 1000000000) (n m : Ky) (i : Nat) (hn : n.length ≤ 1000000) (hm : m.length ≤ 1000000) (hg : getP P n = some i) :
    Calls Try.prog 45 #[.map (some b), chgV φ (.ren n m i)] w fun e w' => e = .returned (.tuple #[]) ∧ MapV w' b (idT φ (doC P (.ren n m i))) (N + 1) ∧ w.grownBy w' (some b) := by
  have hm1 : n.length ≤ maxLen := by unfold maxLen; omega
  have hm2 : m.length ≤ maxLen := by unfold maxLen; omega
  have a1 := as_renamed_made (.agg #[.string ⟨n.toArray⟩, .string ⟨m.toArray⟩])
  have a2 := as_renamed_renamed (.agg #[.string ⟨n.toArray⟩, .string ⟨m.toArray⟩])
  have hT := renTy
  have zM := zRen
  have HG := Lib.hid hg
  clear hg
  unfold chgV
  go_enter Try.func45, Try.ntmps45
  go_wp2_with (first
    | ((with_reducible refine gd_alloc ?_); refine wpList_alloc_blk rfl 86 rfl zM ?_; intro w1 hx1 hb1 hl1; have hM1 := h.ext hb1)
    | ((with_reducible refine gd_store ?_); refine wpList_store_all rfl 86 (.tmp 5) (.tmp 19) rfl #[.string ⟨n.toArray⟩, .string ⟨m.toArray⟩] hx1 hT rfl rfl rfl rfl ?_; intro w2 hx2 hg2; have hb2 := below_blk hb1 hb1.size hg2 (Nat.le_refl _); have hM2 := h.ext hb2; have y0 := hx2.cellv (i := 0) rfl; have y1 := hx2.cellv (i := 1) rfl; have q := hM2.look namesTy (zFileP w2) hm1 (idT_get HG.out))
    | (at_delete; refine wpList_del_map rfl (.tmp 24) (.tmp 26) _ _ rfl namesTy rfl hM2 hm1 rfl ?_; intro w3 hM3 hg3; have hs2 := hx2.lt; have hx3 := hx2.grown hg3 (by intro e; injection e with e; have := h.lt; omega); have y1' := hx3.cellv (i := 1) rfl; have hM3' : MapV w3 b (idT φ (setP P n none)) N := by rw [idT_del]; exact hM3)
    | (at_mapUpdate; refine wpList_put_map rfl (.tmp 27) (.tmp 29) (.tmp 30) _ _ rfl namesTy rfl hM3' (by unfold maxLen; omega) hm2 rfl rfl i ?_; intro w4 hM4 hg4)
    | fail)
  go_end0
  refine ⟨rfl, ?_, (grown_via hb2 hg3).trans hg4⟩
  show MapV w4 b (idT φ (setP (setP P n none) m (some i))) (N + 1)
  rw [idT_set]
  exact hM4
end
end Go.Mun
