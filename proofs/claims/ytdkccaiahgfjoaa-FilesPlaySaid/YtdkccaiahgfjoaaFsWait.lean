/- A change of names waits: FS.wait. -/
import Derived.Test.YtdkccaiahgfjoaaFsDo
import Derived.Test.YtdkccaiahgfjoaaRowOne
import Derived.Deep.Cut
namespace Go.Mun
open Go Go.RowKit Go.Proofs Go.Maps

/-- a block that a step did not write: whose it is says so -/
theorem same_of {o : Own} {k : Nat} {w w' : World} {r : Option Nat} {b : Nat} {t t' : Tag} (hg : w.grownBy w' r) (hb : b < w.heap.size) (e : o b = some (k, t)) (hr : ∀ g, r = some g → o g = some (k, t')) (ht : t ≠ t') : w'.heap[b]? = w.heap[b]? :=
  hg.block b hb fun e' => by
    have := hr b e'.symm
    rw [e] at this
    injection this with this
    injection this with _ this
    exact ht this
theorem one_some {g : Nat} {P : Nat → Prop} (h : P g) : ∀ x, some g = some x → P x := fun x e => by injection e with e; subst e; exact h
section
variable {φ : Nat → Nat} {P : PL Nat} {b N : Nat} {w : World}
theorem do_any (h : MapV w b (idT φ P) N) (hN : N ≤ 1000000000) (c : Chg) (hc : ChgOk P c) :
    Calls Try.prog 45 #[.map (some b), chgV φ c] w fun e w' => e = .returned (.tuple #[]) ∧ (∃ N', MapV w' b (idT φ (doC P c)) N' ∧ N' ≤ N + 1) ∧ w.grownBy w' (some b) := by
  cases c with
  | made n i => exact (do_made h hN n i (by have := hc.1.2; omega)).mono fun e w' ⟨h1, h2, h3⟩ => ⟨h1, ⟨_, h2, Nat.le_refl _⟩, h3⟩
  | ren n m i => exact (do_ren h hN n m i (by have := hc.1.2; omega) (by have := hc.2.1.2; omega) hc.2.2.2).mono fun e w' ⟨h1, h2, h3⟩ => ⟨h1, ⟨_, h2, Nat.le_refl _⟩, h3⟩
  | del n => exact (do_del h n (by have := hc.2; omega)).mono fun e w' ⟨h1, h2, h3⟩ => ⟨h1, ⟨_, h2, by omega⟩, h3⟩
end
/-- a guard: a row is built -/
theorem gd_rowC {P : Program} {ops : Array Oper} {Q : Exit → Act → World → Prop} {d : Option Tmp} {t : TypeId} {n : Nat} {parts : Array (Nat × Operand)} {ty : TypeId} {p : String} {af : Array Edge} {g : Option (Nat × Bool)} {rest : List Oper} {a : Act} {w : World}
    (h : wpList P ops Q (⟨d, .buildSlice t n parts, ty, p, af, g⟩ :: rest) a w) : wpList P ops Q (⟨d, .buildSlice t n parts, ty, p, af, g⟩ :: rest) a w := h
theorem chgsTy : SliceTy Try.prog 57 87 .nilIface 1 16 := SliceTy.mk' Try.underlying57 (by kernel_rfl) rfl (by decide)
theorem chgV_cells (φ : Nat → Nat) (c : Chg) : (chgV φ c).cells = #[chgV φ c] := by cases c <;> rfl
theorem live_wait {M : FSs} {c : Chg} {i : Nat} (hc : ChgOk M.now c) (h : Live (waitM M c) i) : Live M i ∨ ∃ n, c = .made n i := by
  rcases h with ⟨p, hp, e⟩ | h | ⟨n, hn⟩
  · cases c with
    | made n j =>
      rcases mem_made (P := M.now) hp with hp | ⟨_, hp⟩
      · exact .inl (.inl ⟨p, hp, e⟩)
      · exact .inr ⟨n, by rw [← e, hp]⟩
    | ren a b j =>
      rcases mem_ren (P := M.now) hp with hp | ⟨_, hp⟩
      · exact .inl (.inl ⟨p, hp, e⟩)
      · exact .inl (.inl ⟨_, getP_mem hc.2.2.2, by rw [← e, hp]⟩)
    | del a => exact .inl (.inl ⟨p, mem_del (P := M.now) hp, e⟩)
  · exact .inl (.inr (.inl h))
  · rcases List.mem_append.1 hn with hn | hn
    · exact .inl (.inr (.inr ⟨n, hn⟩))
    · exact .inr ⟨n, (List.mem_singleton.1 hn).symm⟩
section
variable {k p : Nat} {M : FSs} {φ : Nat → Nat} {o : Own} {K L : Nat} {w : World}
set_option maxRecDepth 100000 in
set_option maxHeartbeats 1000000 in
theorem wait_any (h : RelP k p M φ o K L w) (c : Chg) (hc : ChgOk M.now c) (hf : ∀ n i, c = .made n i → i < M.next ∧ FileAt k φ o w i (M.fs i) ∧ (M.fs i).b.length ≤ L) (hK : K ≤ 1000000000) :
    Calls Try.prog 31 #[.pointer (some ⟨p, 0, none⟩), chgV φ c] w fun e w' => e = .returned (.tuple #[]) ∧ ∃ o', RelP k p (waitM M c) φ o' (K + 1) L w' ∧ Turn k o o' w w' := by
  obtain ⟨bn, bs, vw, vk, hh⟩ := h.head
  obtain ⟨N, hN, hNK⟩ := hh.now
  have CD := Lib.hid (do_any hN (by omega) c hc)
  have hcc := chgV_cells φ c
  have hco := chgV_one φ c
  obtain ⟨cv, hcv⟩ : ∃ v, v = chgV φ c := ⟨_, rfl⟩
  rw [← hcv] at CD hcc hco ⊢
  have HCV := Lib.hid hcv
  have HCC := Lib.hid hcc
  have HCO := Lib.hid hco
  have hx := hh.blk
  have y0 := hx.cellv (i := 0) rfl
  have H := Lib.hid hh
  have HR := Lib.hid h
  have hT := chgsTy
  have hwl := h.wl
  have hpl := h.own.lt hh.op
  clear hcv hcc hco hN hh h
  go_enter Try.func31, Try.ntmps31
  go_upto_region 1 with (first
    | (go_at_call 45; (with_reducible refine CD.out.mono ?_); rintro e w1 ⟨rfl, hD1, hg1⟩; have hx1 := hx.same (same_of hg1 hpl H.out.op (one_some H.out.on) (by simp)); have y2 := hx1.cellv (i := 2) rfl)
    | fail)
  have ho1 := own_same H.out.waits fun g hg => same_of hg1 (HR.out.own.lt (H.out.ow g hg)) (H.out.ow g hg) (one_some H.out.on) (by simp)
  go_wp2_with (first
    | ((with_reducible refine gd_rowC ?_); refine wpList_row_val (v := cv) rfl (.tmp 15) rfl hT (by decide) rfl (by rw [HCC.out]; rfl) ?_; intro w2 hx2 hb2 hl2; rw [HCC.out] at hx2; have ho2 := own_ext ho1 hb2)
    | (at_builtin; refine wpList_append_rd _ rfl (.tmp 14) (.tmp 16) _ rfl 0 _ _ 1 16 hT _ _ _ rfl ho2 (some ⟨w1.heap.size, 0, none⟩) 1 1 [cv] rfl rfl hx2.rd (by intro u hu; rw [List.mem_singleton.1 hu]; exact HCO.out) (by unfold maxLen; omega) (by omega) (Nat.zero_le _) ?_; intro v3 w3 ho3 hg3 hat3; have hx3 := (hx1.ext hb2).grown hg3 (by intro e; have := H.out.ow p e.symm; rw [H.out.op] at this; cases this))
    | ((with_reducible refine gd_store ?_); refine wpList_store_cell rfl 57 (.tmp 19) (.tmp 17) rfl (i := 2) (v := v3) hx3 (show 2 < 8 by decide) (by kernel_rfl) (own_one ho3) rfl rfl ?_; intro w4 hx4 hg4)
    | fail)
  go_end0
  have ho := HR.out.own
  have s1 := hg1.size
  have s2 := hb2.size
  have s3 := hg3.size
  have s4 := hg4.size
  have T4 : Turn k o o w w4 := ((((Turn.wrote ho hg1 H.out.on).trans (Turn.below (ho.more s1) hb2)).trans (Turn.row (ho.more (by omega)) hg3 H.out.ow)).trans (Turn.wrote (ho.more (by omega)) hg4 H.out.op))
  -- from w1 on: what is neither the waiting row nor the head
  have st1 : ∀ {b t}, o b = some (k, t) → t ≠ .waits → t ≠ .fs → w4.heap[b]? = w1.heap[b]? := fun {b t} e n1 n2 => by
    have hb := ho.lt e
    rw [same_of hg4 (by omega) e (one_some H.out.op) n2, same_of hg3 (by omega) e H.out.ow n1, hb2.block b (by omega)]
  have st : ∀ {b t}, o b = some (k, t) → t ≠ .now → t ≠ .waits → t ≠ .fs → w4.heap[b]? = w.heap[b]? := fun {b t} e n0 n1 n2 => by
    rw [st1 e n1 n2, same_of hg1 (ho.lt e) e (one_some H.out.on) n0]
  have hv3 : w4.ownsRow 0 87 1 v3 (M.waits.length + 1) (M.waits.map (chgV φ) ++ [cv]) := own_same ho3 fun g hg => hg4.block g (ho3.lt g hg).2 fun e => by
    injection e with e
    subst e
    rcases hat3 with h3 | h3
    · have := H.out.ow g (h3 ▸ hg)
      rw [H.out.op] at this
      cases this
    · rw [h3] at hg
      injection hg with hg
      omega
  obtain ⟨o', q1, q2, q3, q4⟩ : ∃ o' : Own, (∀ b, b < w.heap.size → o' b = o b) ∧ OwnIn o' w4 ∧ (∀ g, v3.ownBlock = some g → o' g = some (k, .waits)) ∧ Turn k o o' w w4 := by
    rcases hat3 with h3 | h3
    · exact ⟨o, fun _ _ => rfl, ho.more T4.size, fun g hg => H.out.ow g (h3 ▸ hg), T4⟩
    · have hlt : w2.heap.size < w3.heap.size := (ho3.lt _ h3).2
      refine ⟨give o w2.heap.size (k, .waits), fun b hb => give_ne (by omega), (ho.more T4.size).give (by omega) _, fun g hg => ?_, T4.give (by omega) _⟩
      rw [h3] at hg
      injection hg with hg
      subst hg
      exact give_same _ _ _
  have ex : ∀ {b x}, o b = some x → o' b = some x := fun e => by rw [q1 _ (ho.lt e)]; exact e
  have hchg : (waitM M c).waits.map (chgV φ) = M.waits.map (chgV φ) ++ [cv] := by
    show (M.waits ++ [c]).map (chgV φ) = _
    rw [List.map_append, HCV.out]
    rfl
  have hlen : (waitM M c).waits.length = M.waits.length + 1 := by show (M.waits ++ [c]).length = _; simp
  refine ⟨rfl, o', ⟨HR.out.fine.wait hc fun n i e => (hf n i e).1, q2, ⟨bn, bs, v3, vk, ⟨hx4, ex H.out.op, ex H.out.on, ex H.out.os, ?_, ?_, ?_, q3, ?_, fun g hg => ex (H.out.ok g hg)⟩⟩, fun i hi => ?_, ⟨HR.out.ops.1, by have := HR.out.ops.2; show M.ops ≤ ((K + 1 : Nat) : Int); omega⟩, HR.out.cut, HR.out.opb, by rw [hlen]; omega⟩, q4⟩
  · obtain ⟨N', h1, h2⟩ := hD1
    exact ⟨N', h1.same (st1 H.out.on (by simp) (by simp)), by omega⟩
  · obtain ⟨N', h1, h2⟩ := H.out.syn
    exact ⟨N', h1.same (st H.out.os (by simp) (by simp) (by simp)), by rw [hlen]; omega⟩
  · rw [hchg, hlen]
    exact hv3
  · exact own_same H.out.keep fun g hg => st (H.out.ok g hg) (by simp) (by simp) (by simp)
  · have hF : FileAt k φ o w i (M.fs i) ∧ (M.fs i).b.length ≤ L := by
      rcases live_wait hc hi with h1 | ⟨n, e⟩
      · exact HR.out.file i h1
      · exact (hf n i e).2
    obtain ⟨⟨v, f1, f2, f3, f4⟩, f5⟩ := hF
    exact ⟨⟨v, f1.same (st f2 (by simp) (by simp) (by simp)), ex f2, own_same f3 fun g hg => st (f4 g hg) (by simp) (by simp) (by simp), fun g hg => ex (f4 g hg)⟩, f5⟩
end
end Go.Mun
