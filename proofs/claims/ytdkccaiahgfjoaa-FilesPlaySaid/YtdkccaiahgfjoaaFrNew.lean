/- The reference: Append, where there is no such file. -/
import Derived.Test.YtdkccaiahgfjoaaFrWait
namespace Go.Mun
open Go Go.RowKit Go.Proofs Go.Maps

theorem zChgR : (Try.prog.info? 72).bind (·.zero) = some (.agg #[.string ⟨#[]⟩, .string ⟨#[]⟩, .pointer none]) := by kernel_rfl
theorem erow_congr {φ φ' : Nat → Nat} {P : PL Nat} (h : ∀ p ∈ P, φ' p.2 = φ p.2) : erow φ' P = erow φ P := by
  induction P with
  | nil => rfl
  | cons p P ih =>
    rw [erow_cons, erow_cons, ih fun q hq => h q (List.mem_cons_of_mem _ hq)]
    unfold ent
    rw [h p List.mem_cons_self]
theorem crow_congr {φ φ' : Nat → Nat} : ∀ {l : List Chg}, (∀ c ∈ l, chR φ' c = chR φ c) → crow φ' l = crow φ l
  | [], _ => rfl
  | c :: l, h => by
    show chR φ' c ++ crow φ' l = chR φ c ++ crow φ l
    rw [h c List.mem_cons_self, crow_congr fun d hd => h d (List.mem_cons_of_mem _ hd)]
theorem RelR.newF {k p : Nat} {M : FSs} {φ φ' : Nat → Nat} {o : Own} {K L : Nat} {w w' : World} (h : RelR k p M φ o K L w) (hb : Below w.heap.size w w') (hx : Blk w' w.heap.size 70 #[.slice none 0 0, .int .i64 0])
    (h1 : φ' M.next = w.heap.size) (h2 : ∀ j, j ≠ M.next → φ' j = φ j) (hr : ∀ a b i, Chg.ren a b i ∈ M.waits → i < M.next) : RelR k p (newF M) φ' (give o w.heap.size (k, .file M.next)) K L w' ∧ FileAtR k φ' (give o w.heap.size (k, .file M.next)) w' M.next ⟨[], 0⟩ := by
  obtain ⟨vn, vs, vw, vk, pl, c0, c1, lf, hh⟩ := h.head
  have ho := h.own
  have ex : ∀ {b x}, o b = some x → give o w.heap.size (k, .file M.next) b = some x := fun e => by rw [give_ne (by have := ho.lt e; omega)]; exact e
  have hlt := hx.lt
  have i1 : erow φ' M.now = erow φ M.now := erow_congr fun p hp => h2 _ (by have := h.fine.fresh p hp; omega)
  have i2 : erow φ' M.syn = erow φ M.syn := erow_congr fun p hp => h2 _ (by have := h.fine.sfresh p hp; omega)
  have i3 : crow φ' M.waits = crow φ M.waits := by
    refine crow_congr fun c hc => ?_
    cases c with
    | made n i => show [_, _, ptr (φ' i)] = [_, _, ptr (φ i)]; rw [h2 i (by have := h.fine.made n i hc; omega)]
    | ren a b i => show [_, _, ptr (φ' i)] = [_, _, ptr (φ i)]; rw [h2 i (by have := hr a b i hc; omega)]
    | del a => rfl
  have hm := hh.mono (w' := w') (o' := give o w.heap.size (k, .file M.next)) (fun e _ _ => hb.block _ (ho.lt e)) ex
  refine ⟨⟨h.fine.newF, (ho.more hb.size).give hlt _, ⟨vn, vs, vw, vk, pl, c0, c1, lf, ⟨hm.blk, hm.op, ?_, hm.on, ?_, hm.os, ?_, hm.ow, hm.plan, hm.left⟩⟩, fun i hi => ?_, h.ops, h.cut, h.opb, h.size⟩, ?_⟩
  · show w'.ownsRow 0 _ 2 vn M.now.length (erow φ' M.now)
    rw [i1]; exact hm.now
  · show w'.ownsRow 0 _ 2 vs M.syn.length (erow φ' M.syn)
    rw [i2]; exact hm.syn
  · show w'.ownsRow 0 _ 3 vw M.waits.length (crow φ' M.waits)
    rw [i3]; exact hm.waits
  · have hi' : Live M i := hi
    have hlt := live_lt h.fine hi'
    have hne : i ≠ M.next := by omega
    show FileAtR k φ' _ w' i (if i = M.next then (⟨[], 0⟩ : FileS) else M.fs i) ∧ (if i = M.next then (⟨[], 0⟩ : FileS) else M.fs i).b.length ≤ L
    rw [if_neg hne]
    obtain ⟨v, g1, g2, g3, g4⟩ := (h.file i hi').1.mono (w' := w') (fun e _ => hb.block _ (ho.lt e)) ex
    exact ⟨⟨v, by rw [h2 i hne]; exact g1, by rw [h2 i hne]; exact g2, g3, g4⟩, (h.file i hi').2⟩
  · exact ⟨.slice none 0 0, by rw [h1]; exact hx, by rw [h1]; exact give_same _ _ _, World.ownsRow_nil _ _ _ _, fun g hg => by cases hg⟩
/-- renamings that wait are of files that there are -/
theorem rens_lt : ∀ {l : List Chg} {P : PL Nat} {N : Nat}, ChgsOk P l → (∀ p ∈ P, p.2 < N) → (∀ n i, Chg.made n i ∈ l → i < N) → ∀ a b i, Chg.ren a b i ∈ l → i < N
  | [], _, _, _, _, _, _, _, _, h => absurd h List.not_mem_nil
  | c :: l, P, N, hc, hP, hm, a, b, i, h => by
    have hP' : ∀ p ∈ doC P c, p.2 < N := fun p hp => by
      cases c with
      | made n j =>
        rcases mem_made (P := P) hp with hp | ⟨_, e⟩
        · exact hP p hp
        · rw [e]; exact hm n j List.mem_cons_self
      | ren x y j =>
        rcases mem_ren (P := P) hp with hp | ⟨_, e⟩
        · exact hP p hp
        · rw [e]; exact hP _ (getP_mem hc.1.2.2.2)
      | del x => exact hP p (mem_del (P := P) hp)
    rcases List.mem_cons.1 h with e | h
    · subst e; exact hP _ (getP_mem hc.1.2.2.2)
    · exact rens_lt hc.2 hP' (fun n j hj => hm n j (List.mem_cons_of_mem _ hj)) a b i h
section
variable {k p : Nat} {M : FSs} {φ : Nat → Nat} {o : Own} {K L : Nat} {w : World}
set_option maxRecDepth 100000 in
set_option maxHeartbeats 2000000 in
theorem AppR_new (h : RelR k p M φ o K L w) (n : Ky) (va : Value) (l : List UInt8) (hv : Bytes w va l) (hvf : Free o k va) (hl : l.length ≤ 1000000000) (hL : L ≤ 1000000000) (hKb : K ≤ 100000) (hd : M.dead = false) (hg : getP M.now n = none) (hnm : NameOk n) (hsz : M.now.length < 200) (hf : failsB M = false) (CO0 : OpAny k p M o K L w) :
    Calls Try.prog 12 #[.pointer (some ⟨p, 0, none⟩), .string ⟨n.toArray⟩, va] w fun e w' => e = .returned (.bool (goesB M (appOk M n))) ∧ ∃ o' φ', RelR k p (appM M n l) φ' o' (K + 2) (L + l.length) w' ∧ Turn k o o' w w' := by
  have CO := Lib.hid CO0
  have hbT := bytesTyC
  have zC := zChgR
  have HBY := Lib.hid (fun (w1 : World) (hb : Below w.heap.size w w1) (o' : Own) (w' : World) (T : Turn k o o' w1 w') => (hv.ext hb).turn T hvf)
  obtain ⟨Av, nv, cv, rfl⟩ : ∃ A n c, va = .slice A n c := by obtain ⟨A, n, c, e, _⟩ := hv; exact ⟨A, n, c, e⟩
  obtain ⟨vn, vs, vw, vk, pl, c0, c1, lf, hh⟩ := h.head
  have CF := Lib.hid (find_any φ vn M.now n w (Ents.own hh.now) h.fine.rnow)
  have HR := Lib.hid h
  have hx := hh.blk
  obtain ⟨An, cn, rfl⟩ := row_slC hh.now
  have y0 := hx.cellv (i := 0) rfl
  rw [hd] at hx
  have HG := Lib.hid hg
  have HGO := Lib.hid hg
  have HF := Lib.hid hf
  have HNM := Lib.hid hnm
  have HOK := Lib.hid (appOk_new hd (decide_eq_true (p := n ≠ [] ∧ n.length ≤ 100) hnm) hg hsz)
  have q : n.isEmpty = false := by have := hnm.1; cases n <;> simp_all
  have hl2 := hnm.2
  have d : decide ((100 : Int) < (n.length : Int)) = false := decide_eq_false (by omega)
  have d2 : decide ((200 : Int) ≤ (M.now.length : Int)) = false := decide_eq_false (by omega)
  clear hh h hd hg hf CO0 hnm hv hvf
  go_enter Try.func12, Try.ntmps12
  go_upto_region 9 with (first
    | (go_at_call 32; (with_reducible refine CF.out.mono ?_); rintro e w1 ⟨kx, he, PL, hb1⟩; rw [HG.out] at he; have he2 : e = .returned (.tuple #[.int .i64 (kx : Nat), .bool false]) := he; clear he; subst he2; have HB1 := hb1; have hx1 := hx.ext hb1; have y8 := hx1.cellv (i := 8) rfl; have y0 := hx1.cellv (i := 0) rfl)
    | (go_at_call 33; (with_reducible refine (CO.out.at_ _ HB1).mono ?_); rintro e w2 ⟨he, o2, φ2, h2, T2⟩; rw [HF.out] at he; have he3 : e = .returned (.bool true) := he; clear he; subst he3)
    | ((with_reducible refine gd_box ?_); refine wpList_box_agg rfl _ (.tmp 53) rfl rfl ?_; intro w3 hx3 hb3 hl3)
    | ((with_reducible refine gd_alloc ?_); refine wpList_alloc_blk rfl 72 rfl zC ?_; intro w4 hx4 hb4 hl4)
    | ((with_reducible refine gd_store ?_); refine wpList_store_all rfl 72 (.tmp 10) (.tmp 55) rfl #[.string ⟨#[]⟩, .string ⟨n.toArray⟩, .pointer (some ⟨w2.heap.size, 0, none⟩)] hx4 chgTyA rfl rfl rfl rfl ?_; intro w5 hx5 hg5)
    | fail)
  -- the new file
  obtain ⟨nx, hnx⟩ : ∃ x, x = (failsM M).next := ⟨_, rfl⟩
  obtain ⟨φ', p1, p2⟩ : ∃ φ' : Nat → Nat, φ' nx = w2.heap.size ∧ ∀ j, j ≠ nx → φ' j = φ2 j := ⟨fun j => if j = nx then w2.heap.size else φ2 j, if_pos rfl, fun j hj => if_neg hj⟩
  obtain ⟨h3, hfa⟩ := RelR.newF (φ' := φ') h2 hb3 hx3 (by rw [← hnx]; exact p1) (by rw [← hnx]; exact p2) (rens_lt h2.fine.ok h2.fine.sfresh h2.fine.made)
  obtain ⟨_, _, _, _, _, _, _, _, hh2⟩ := h2.head
  have hp2 : p < w2.heap.size := h2.own.lt hh2.op
  clear hh2
  have hb35 := below_blk hb4 hb4.size hg5 (Nat.le_refl _)
  have h5 := h3.ext hb35
  have T3 := (Turn.below (k := k) h2.own (below_step hb3 hb35)).give (Nat.le_refl _) (.file (failsM M).next)
  have T5 := ((Turn.below HR.out.own HB1).trans T2).trans T3
  have HBA := HBY.out _ HB1 _ _ (T2.trans T3)
  have hfa5 := hfa.mono (w' := w5) (fun e _ => hb35.block _ (h3.own.lt e)) id
  obtain ⟨o3, ho3⟩ : ∃ x, x = give o2 w2.heap.size (k, .file (failsM M).next) := ⟨_, rfl⟩
  obtain ⟨M2, hM2⟩ : ∃ x, x = newF (failsM M) := ⟨_, rfl⟩
  have T15 := T2.trans T3
  rw [← ho3] at h5 T5 hfa5 T15
  replace T15 := Lib.hid T15
  rw [← hM2] at h5
  have HM2 := Lib.hid hM2
  have HNX := Lib.hid hnx
  have hpr : (chR φ' (.made n nx)).toArray = #[.string ⟨#[]⟩, .string ⟨n.toArray⟩, .pointer (some ⟨w2.heap.size, 0, none⟩)] := by show #[_, _, ptr (φ' nx)] = _; rw [p1]
  rw [← hpr] at hx5
  obtain ⟨cs, hcs⟩ : ∃ x, x = chR φ' (.made n nx) := ⟨_, rfl⟩
  rw [← hcs] at hx5
  have HCS := Lib.hid hcs
  have HCN := Lib.hid (show cs.length = 3 by rw [hcs, chR_length])
  have HCL := Lib.hid (show cs.toArray.size = 3 by rw [hcs]; rfl)
  have HC1 := Lib.hid (show ∀ u ∈ cs, u.oneCell' = true by rw [hcs]; exact chR_one φ' _)
  obtain ⟨vn5, vs5, vw5, vk5, pl5, e0, e1, lf5, hh5⟩ := h5.head
  obtain ⟨AN, cN, rfl⟩ := row_slC hh5.now
  obtain ⟨AW, cW, rfl⟩ := row_slC hh5.waits
  have H5 := Lib.hid hh5
  have R5 := Lib.hid h5
  have T5' := Lib.hid T5
  have HFA := Lib.hid hfa5
  have hnl := h5.nowlen
  have hwl := h5.size
  have hcg : ChgOk M2.now (.made n nx) := ⟨HNM.out, fun q hq => by rw [hM2] at hq; have := h2.fine.fresh q hq; omega⟩
  have HCG := Lib.hid hcg
  obtain ⟨Pn, hPn⟩ : ∃ x, x = doC M2.now (.made n nx) := ⟨_, rfl⟩
  have HPN := Lib.hid hPn
  have HDN := Lib.hid (fun (w' : World) (hen : Ents φ' w' (.slice AN M2.now.length cN) M2.now) => done_any φ' _ M2.now (.made n nx) w' hen R5.out.fine.rnow (by omega) HCG.out)
  rw [← hPn, ← hcs] at HDN
  have hpw : p < w5.heap.size := h5.own.lt hh5.op
  have hx := hh5.blk
  have hcp : w3.heap.size ≠ p := by
    have h7 := hb3.size
    omega
  have HPW := Lib.hid hpw
  have HCR := Lib.hid (show some w3.heap.size ≠ (Value.slice AW M2.waits.length cW).ownBlock from fun e => by have h6 := h3.own; rw [← ho3] at h6; have := h6.lt (hh5.ow _ e.symm); omega)
  clear h2 h3 hfa hb35 T2 T3 T5 p1 p2 hnx ho3 hM2 hcs hpr hfa5 hcg hPn hh5 h5 hx3 hx4 hb3 hb4 hg5 hl3 hl4 y0 y8 hx1 hpw
  obtain ⟨q, hq⟩ : ∃ q, q = w5.heap.size := ⟨_, rfl⟩
  have HPQ := Lib.hid (show p < q by rw [hq]; exact HPW.out)
  have HGC := Lib.hid (fun (w' : World) (hb : w5.drew.grownBy w' (some p)) => (show Blk w5.drew w3.heap.size _ _ from hx5).grown hb (by intro e; injection e with e; exact hcp e))
  have HEN := Lib.hid (fun (w' : World) (hb : w5.drew.grownBy w' (some p)) => Ents.own (own_same H5.out.now (w' := w') fun g hg => hb.block g (R5.out.own.lt (H5.out.on g hg)) (by intro e; injection e with e; exact own_ne (H5.out.on g hg) H5.out.op (by simp) e)))
  have hq0 : q ≤ w5.drew.heap.size := by rw [hq]; exact Nat.le_refl _
  have HQ := Lib.hid hq
  clear hq
  refine wp_region_phase (by kernel_rfl) (by kernel_rfl) (by kernel_rfl) (fun w w' => w.grownBy w' (some p)) (fun _ => World.grownBy.refl _ _) (fun _ _ _ h k => h.trans k) (SDn p q M2.now.length cN AN cs φ' Pn) (SDn_stays _ _ _ _ _ _ _ _ HPQ.out) (JDn p q M2.now.length cN AN φ' Pn (fun v => #[v, vs5, .slice AW M2.waits.length cW, .bool pl5, .int .i64 e0, .int .i64 e1, vk5, .int .i64 lf5, .bool M2.dead, .int .i64 M2.ops])) ⟨fun _ => hx, fun e => (by cases e), hq0⟩ ?_ ?_
  · simp only [PhStep]
    refine ⟨?_, ?_, ?_, ?_, ?_, ?_, ?_, ?_, ?_, ?_, trivial⟩
    · intro L V w' hb hj hl hdo hcl hd
      clear hdo hcl
      clear hd
      refine ⟨?_⟩
      simp only [fill]
      go_wp2
      exact ⟨⟨rfl, rfl, World.grownBy.refl _ _, rfl⟩, hj.far (by decide)⟩
    · intro L V w' hb hj hl hdo hcl hd
      clear hdo hcl
      clear hd
      refine ⟨?_⟩
      simp only [fill]
      go_wp2
      exact ⟨⟨rfl, rfl, World.grownBy.refl _ _, rfl⟩, hj.far (by decide)⟩
    · intro L V w' hb hj hl hdo hcl hd
      clear hdo hcl
      simp only [DepFacts, SDn, Region.binds, forall_const, and_true] at hd
      refine ⟨?_⟩
      simp only [fill, hd]
      clear hd
      go_wp2
      exact ⟨⟨rfl, rfl, World.grownBy.refl _ _, rfl⟩, hj.far (by decide)⟩
    · intro L V w' hb hj hl hdo hcl hd
      clear hdo hcl
      simp only [DepFacts, SDn, Region.binds, forall_const, and_true] at hd
      refine ⟨?_⟩
      simp only [fill, hd]
      clear hd
      go_wp2
      exact ⟨⟨rfl, rfl, World.grownBy.refl _ _, rfl⟩, hj.far (by decide)⟩
    · intro L V w' hb hj hl hdo hcl hd
      have h9 : L 9 = false := Bool.eq_false_iff.2 fun e => by have := hcl 6 4 (by kernel_rfl) (hcl 9 6 (by kernel_rfl) e); rw [this] at hl; cases hl
      have yj := (hj.head0 h9).cellv (i := 0) rfl
      clear hdo hcl
      simp only [DepFacts, SDn, Region.binds, forall_const, and_true] at hd
      refine ⟨?_⟩
      simp only [fill, hd]
      clear hd
      go_wp2
      exact ⟨⟨rfl, rfl, World.grownBy.refl _ _, rfl⟩, hj.far (by decide)⟩
    · intro L V w' hb hj hl hdo hcl hd
      have hgc := HGC.out _ hb
      clear hdo hcl
      clear hd
      refine ⟨?_⟩
      simp only [fill]
      simp only [Act.put, List.setIfInBounds_toArray, List.set_cons_zero, List.set_cons_succ]
      go_wp2_with (first | ((with_reducible refine gd_load ?_); refine wpList_load_blk rfl 72 (.tmp 10) rfl hgc (by rw [HCL.out]; exact chgTyA) rfl ?_) | fail)
      exact ⟨⟨rfl, rfl, World.grownBy.refl _ _, rfl⟩, hj.far (by decide)⟩
    · intro L V w' hb hj hl hdo hcl hd
      have hen := HEN.out _ hb
      have h9 : L 9 = false := Bool.eq_false_iff.2 fun e => by have := hcl 9 6 (by kernel_rfl) e; rw [this] at hl; cases hl
      have hq := hj.low
      clear hdo hcl
      simp only [DepFacts, SDn, Region.binds, forall_const, and_true] at hd
      refine ⟨?_⟩
      simp only [fill, hd]
      clear hd
      simp only [Act.put, List.setIfInBounds_toArray, List.set_cons_zero, List.set_cons_succ]
      go_wp2_with (first | (go_at_call 34; (with_reducible refine (HDN.out _ hen).mono ?_); rintro e w3 ⟨v3, rfl, ho3, hb3⟩) | fail)
      exact ⟨⟨rfl, rfl, ⟨hb3.os, hb3.tape, hb3.output, hb3.size, fun k hk _ => hb3.block k hk⟩, own_base ho3 hq⟩, hj.ext h9 hb3⟩
    · intro L V w' hb hj hl hdo hcl hd
      clear hcl
      have d0 : V 0 = .pointer (some ⟨p, 0, none⟩) := by
        simp only [DepFacts, SDn, Region.binds, forall_const, and_true] at hd
        first | exact hd.1 | exact hd
      clear hdo hd
      refine ⟨?_⟩
      simp only [fill, d0]
      clear d0
      go_wp2
      exact ⟨⟨rfl, rfl, World.grownBy.refl _ _, rfl⟩, hj.far (by decide)⟩
    · intro L V w' hb hj hl hdo hcl hd
      clear hcl
      have d0 : V 7 = .pointer (some ⟨p, 0, none⟩) := by
        simp only [DepFacts, SDn, Region.binds, forall_const, and_true] at hd
        first | exact hd.1 | exact hd
      clear hdo hd
      refine ⟨?_⟩
      simp only [fill, d0]
      clear d0
      go_wp2
      exact ⟨⟨rfl, rfl, World.grownBy.refl _ _, rfl⟩, hj.far (by decide)⟩
    · intro L V w' hb hj hl hdo hcl hd
      have hx := hj.head0 hl
      clear hdo hcl
      have d8 : V 8 = .pointer (some ⟨p, 0, none⟩) := by
        simp only [DepFacts, SDn, Region.binds, forall_const, and_true] at hd
        exact hd.1
      have d6 : SDn p q M2.now.length cN AN cs φ' Pn 6 (V 6) w' := by
        simp only [DepFacts, Region.binds, forall_const, and_true] at hd
        exact hd.2.1
      clear hd
      obtain ⟨A6, c6, e6⟩ := row_slC d6
      have d6r : w'.ownsRow q 75 2 (.slice A6 Pn.length c6) Pn.length (erow φ' Pn) := by rw [← e6]; exact d6
      clear d6
      refine ⟨?_⟩
      simp only [fill, e6, d8]
      clear e6 d8
      simp only [Act.put, List.setIfInBounds_toArray, List.set_cons_zero, List.set_cons_succ]
      go_wp2_with (first | ((with_reducible refine gd_store ?_); refine wpList_store_cell rfl 32 (.tmp 64) (.tmp 62) rfl (i := 0) (v := .slice A6 Pn.length c6) hx (show 0 < 10 by decide) (by kernel_rfl) rfl rfl rfl ?_; intro w3 hx3 hg3) | fail)
      exact ⟨⟨rfl, rfl, hg3, trivial⟩, hj.store hx3 hg3 (own_kept d6r hg3 HPQ.out)⟩
  · intro Lx V w9 hL hb9 hs hj
    obtain ⟨v9, hx9, ho9⟩ := hj.head1 (hL 9 (by decide))
    clear hs hj hL
    simp only [fill]
    try simp only [Exit.then]
    try go_simp
    go_upto_region 10 with (fail)
    have hb59 : w5.grownBy w9 (some p) := ⟨hb9.os, hb9.tape, hb9.output, hb9.size, hb9.block⟩
    have ho5 := R5.out.own
    have hp9 : p < w9.heap.size := hx9.lt
    have st9 : ∀ {b t}, o3 b = some (k, t) → t ≠ .fs → w9.heap[b]? = w5.heap[b]? := fun {b t} e n1 => same_of hb59 (ho5.lt e) e (one_some H5.out.op) n1
    have how9 := own_same H5.out.waits (w' := w9) fun g hg => st9 (H5.out.ow g hg) (by simp)
    have HST9 := Lib.hid (fun (b : Nat) (t : Tag) (e : o3 b = some (k, t)) (n1 : t ≠ .fs) => st9 e n1)
    have hcg9 : Blk w9 w3.heap.size 72 cs.toArray := hx5.grown hb59 (by intro e; injection e with e; exact hcp e)
    obtain ⟨q2, hq2⟩ : ∃ q, q = w9.heap.size := ⟨_, rfl⟩
    have hpq2 : p < q2 := by rw [hq2]; exact hp9
    have HPQ := Lib.hid hpq2
    have hlw : ∀ g, (Value.slice AW M2.waits.length cW).ownBlock = some g → g < q2 := fun g hg => by
      have := ho5.lt (H5.out.ow g hg)
      have := hb59.size
      omega
    have hpr2 : some p ≠ (Value.slice AW M2.waits.length cW).ownBlock := fun e => own_ne H5.out.op (H5.out.ow p e.symm) (by simp) rfl
    have HPR := Lib.hid hpr2
    have hcr : some w3.heap.size ≠ (Value.slice AW M2.waits.length cW).ownBlock := HCR.out
    have HGC := Lib.hid (fun (w' : World) (hb : Wr2 p (Value.slice AW M2.waits.length cW).ownBlock w9.drew w') => (show Blk w9.drew w3.heap.size _ _ from hcg9).wr2 hb hcp hcr)
    have hq20 : q2 ≤ w9.drew.heap.size := by rw [hq2]; exact Nat.le_refl _
    have HQ2 := Lib.hid hq2
    have HLW := Lib.hid hlw
    have HB59 := Lib.hid hb59
    have HO9 := Lib.hid ho9
    have hx9' : Blk w9.drew p 37 _ := hx9
    have how9' := own_drew how9
    clear hq2 hb59 hb9 hcg9 hcr hlw hpr2 ho9 hx st9 hx9 how9
    refine wp_region_phase (by kernel_rfl) (by kernel_rfl) (by kernel_rfl) (Wr2 p (Value.slice AW M2.waits.length cW).ownBlock) Wr2.refl (fun _ _ _ h k => h.trans k) (SWt p q2 M2.waits.length cW AW cs) (SWt_stays p q2 M2.waits.length cW AW cs HPQ.out HLW.out) (JWt p q2 M2.waits.length cW AW cs (crow φ' M2.waits) (fun v => #[v9, vs5, v, .bool pl5, .int .i64 e0, .int .i64 e1, vk5, .int .i64 lf5, .bool M2.dead, .int .i64 M2.ops])) ⟨fun _ => hx9', fun _ => how9', fun e => (by cases e), fun e => (by cases e), hq20⟩ ?_ ?_
    · simp only [PhStep]
      refine ⟨?_, ?_, ?_, ?_, ?_, ?_, ?_, ?_, ?_, ?_, ?_, trivial⟩
      · intro L V w' hb hj hl hdo hcl hd
        clear hdo hcl
        clear hd
        refine ⟨?_⟩
        simp only [fill]
        go_wp2
        exact ⟨⟨rfl, rfl, Wr2.refl _, rfl⟩, hj.far (by decide) (by decide)⟩
      · intro L V w' hb hj hl hdo hcl hd
        clear hdo hcl
        clear hd
        refine ⟨?_⟩
        simp only [fill]
        go_wp2
        exact ⟨⟨rfl, rfl, Wr2.refl _, rfl⟩, hj.far (by decide) (by decide)⟩
      · intro L V w' hb hj hl hdo hcl hd
        clear hdo hcl
        simp only [DepFacts, SWt, Region.binds, forall_const, and_true] at hd
        refine ⟨?_⟩
        simp only [fill, hd]
        clear hd
        go_wp2
        exact ⟨⟨rfl, rfl, Wr2.refl _, rfl⟩, hj.far (by decide) (by decide)⟩
      · intro L V w' hb hj hl hdo hcl hd
        clear hdo hcl
        simp only [DepFacts, SWt, Region.binds, forall_const, and_true] at hd
        refine ⟨?_⟩
        simp only [fill, hd]
        clear hd
        go_wp2
        exact ⟨⟨rfl, rfl, Wr2.refl _, rfl⟩, hj.far (by decide) (by decide)⟩
      · intro L V w' hb hj hl hdo hcl hd
        have h10 : L 10 = false := Bool.eq_false_iff.2 fun e => by have := hcl 7 4 (by kernel_rfl) (hcl 10 7 (by kernel_rfl) e); rw [this] at hl; cases hl
        have yj := (hj.head0 h10).cellv (i := 2) rfl
        clear hdo hcl
        simp only [DepFacts, SWt, Region.binds, forall_const, and_true] at hd
        refine ⟨?_⟩
        simp only [fill, hd]
        clear hd
        go_wp2
        exact ⟨⟨rfl, rfl, Wr2.refl _, rfl⟩, hj.far (by decide) (by decide)⟩
      · intro L V w' hb hj hl hdo hcl hd
        have hgc := HGC.out _ hb
        clear hdo hcl
        clear hd
        refine ⟨?_⟩
        simp only [fill]
        simp only [Act.put, List.setIfInBounds_toArray, List.set_cons_zero, List.set_cons_succ]
        go_wp2_with (first | ((with_reducible refine gd_load ?_); refine wpList_load_blk rfl 72 (.tmp 10) rfl hgc (by rw [HCL.out]; exact chgTyA) rfl ?_) | fail)
        exact ⟨⟨rfl, rfl, Wr2.refl _, rfl⟩, hj.far (by decide) (by decide)⟩
      · intro L V w' hb hj hl hdo hcl hd
        have hq := hj.low
        clear hdo hcl
        simp only [DepFacts, SWt, Region.binds, forall_const, and_true] at hd
        refine ⟨?_⟩
        simp only [fill, hd]
        clear hd
        simp only [Act.put, List.setIfInBounds_toArray, List.set_cons_zero, List.set_cons_succ]
        go_wp2_with (first | ((with_reducible refine gd_rowC ?_); refine wpList_row_one rfl (.tmp 70) rfl chgTyR (by decide) (cs := cs.toArray) rfl HCL.out ?_; intro w3 hx3 hb3 hl3) | fail)
        exact ⟨⟨rfl, rfl, Wr2.below hb3, w'.heap.size, rfl, hq, hx3⟩, (hj.ext hb3).far (by decide) (by decide)⟩
      · intro L V w' hb hj hl hdo hcl hd
        have h10 : L 10 = false := Bool.eq_false_iff.2 fun e => by have := hcl 10 7 (by kernel_rfl) e; rw [this] at hl; cases hl
        have hr0 := hj.row0 hl
        clear hdo hcl
        simp only [DepFacts, SWt, Region.binds, forall_const, and_true] at hd
        obtain ⟨d4, g6, d6, _, hx6⟩ := hd
        refine ⟨?_⟩
        simp only [fill, d4, d6]
        clear d4 d6
        simp only [Act.put, List.setIfInBounds_toArray, List.set_cons_zero, List.set_cons_succ]
        go_wp2_with (first | (at_builtin; refine wpList_append_rd _ rfl (.tmp 69) (.tmp 71) _ rfl 0 _ _ 3 40 chgTyR _ _ _ rfl hr0 (some ⟨g6, 0, none⟩) 1 1 cs rfl (by rw [Nat.one_mul]; exact HCN.out) hx6.rd HC1.out (by unfold maxLen; omega) (by omega) (Nat.zero_le _) ?_; intro v3 w3 ho3 hg3 hat3) | fail)
        exact ⟨⟨rfl, rfl, Wr2.row hg3, trivial⟩, hj.app h10 ho3 hg3 hat3 HPR.out⟩
      · intro L V w' hb hj hl hdo hcl hd
        clear hcl
        have d0 : V 0 = .pointer (some ⟨p, 0, none⟩) := by
          simp only [DepFacts, SWt, Region.binds, forall_const, and_true] at hd
          first | exact hd.1 | exact hd
        clear hdo hd
        refine ⟨?_⟩
        simp only [fill, d0]
        clear d0
        go_wp2
        exact ⟨⟨rfl, rfl, Wr2.refl _, rfl⟩, hj.far (by decide) (by decide)⟩
      · intro L V w' hb hj hl hdo hcl hd
        clear hcl
        have d0 : V 8 = .pointer (some ⟨p, 0, none⟩) := by
          simp only [DepFacts, SWt, Region.binds, forall_const, and_true] at hd
          first | exact hd.1 | exact hd
        clear hdo hd
        refine ⟨?_⟩
        simp only [fill, d0]
        clear d0
        go_wp2
        exact ⟨⟨rfl, rfl, Wr2.refl _, rfl⟩, hj.far (by decide) (by decide)⟩
      · intro L V w' hb hj hl hdo hcl hd
        have h7 : L 7 = true := hdo 7 (by kernel_rfl)
        have hx := hj.head0 hl
        obtain ⟨hr1, hat7⟩ := hj.row1 h7
        clear hdo hcl
        have d9 : V 9 = .pointer (some ⟨p, 2, none⟩) := by
          simp only [DepFacts, SWt, Region.binds, forall_const, and_true] at hd
          exact hd.1
        clear hd
        have hp7 : (V 7).ownBlock ≠ some p := by
          intro e
          rcases hat7 with h | ⟨g, h, hq⟩
          · exact HPR.out (e.symm.trans h)
          · rw [h] at e; injection e with e; have := HPQ.out; omega
        have h71 := own_one hr1
        refine ⟨?_⟩
        simp only [fill, d9]
        clear d9
        simp only [Act.put, List.setIfInBounds_toArray, List.set_cons_zero, List.set_cons_succ]
        go_wp2_with (first | ((with_reducible refine gd_store ?_); refine wpList_store_cell rfl 33 (.tmp 74) (.tmp 72) rfl (i := 2) (v := V 7) hx (show 2 < 10 by decide) (by kernel_rfl) h71 rfl rfl ?_; intro w3 hx3 hg3) | fail)
        exact ⟨⟨rfl, rfl, Wr2.put hg3, trivial⟩, hj.store h7 hx3 hg3 hp7⟩
    · intro Lx V w10 hL hb10 hs hj
      obtain ⟨hr10, hat10⟩ := hj.row1 (hL 7 (by decide))
      have hx10 := hj.head1 (hL 10 (by decide))
      clear hs hj hL
      generalize V 7 = v10 at hr10 hat10 hx10
      simp only [fill]
      try simp only [Exit.then]
      try go_simp
      have ho5 := R5.out.own
      have s59 := HB59.out.size
      have s910 : w9.heap.size ≤ w10.heap.size := hb10.size
      have hq5 := HQ.out
      have hq9 := HQ2.out
      have hrl : ∀ g, (Value.slice AW M2.waits.length cW).ownBlock = some g → g < w5.heap.size := fun g hg => ho5.lt (H5.out.ow g hg)
      have T59 : Turn k o3 o3 w5 w9 := Turn.wrote ho5 HB59.out H5.out.op
      obtain ⟨oA, a1, a2, a3, a4⟩ : ∃ o' : Own, (∀ b, b < w5.heap.size → o' b = o3 b) ∧ OwnIn o' w9 ∧ (∀ g, v9.ownBlock = some g → o' g = some (k, .now)) ∧ Turn k o3 o' w5 w9 := by
        cases hv : v9.ownBlock with
        | none => exact ⟨o3, fun _ _ => rfl, ho5.more s59, fun g hg => (by cases hg), T59⟩
        | some g =>
          have hlt := HO9.out.lt g hv
          refine ⟨give o3 g (k, .now), fun b hb => give_ne (by omega), (ho5.more s59).give hlt.2 _, fun g' hg => ?_, T59.give (by omega) _⟩
          injection hg with hg
          subst hg
          exact give_same _ _ _
      have exA : ∀ {b : Nat} {x : Nat × Tag}, o3 b = some x → oA b = some x := fun e => by rw [a1 _ (ho5.lt e)]; exact e
      have T910 : Turn k oA oA w9 w10 := ⟨hb10.os, hb10.tape, hb10.output, hb10.size, fun b hb hn => hb10.block b hb (fun e => hn .fs (by rw [e]; exact exA H5.out.op)) (fun e => hn .waits (exA (H5.out.ow b e.symm))), fun _ _ => rfl, fun b hb => .inl (a2 b hb)⟩
      obtain ⟨oB, b1, b2, b3, b4⟩ : ∃ o' : Own, (∀ b, b < w9.heap.size → o' b = oA b) ∧ OwnIn o' w10 ∧ (∀ g, v10.ownBlock = some g → o' g = some (k, .waits)) ∧ Turn k oA o' w9 w10 := by
        rcases hat10 with h | ⟨g, h, hg⟩
        · exact ⟨oA, fun _ _ => rfl, a2.more s910, fun g hg => exA (H5.out.ow g (h ▸ hg)), T910⟩
        · have hlt := hr10.lt g h
          refine ⟨give oA g (k, .waits), fun b hb => give_ne (by omega), (a2.more s910).give hlt.2 _, fun g' hg' => ?_, T910.give (by omega) _⟩
          rw [h] at hg'
          injection hg' with hg'
          subst hg'
          exact give_same _ _ _
      have exB : ∀ {b : Nat} {x : Nat × Tag}, oA b = some x → oB b = some x := fun e => by rw [b1 _ (a2.lt e)]; exact e
      have st10 : ∀ {b : Nat} {t : Tag}, o3 b = some (k, t) → t ≠ .fs → t ≠ .waits → w10.heap[b]? = w5.heap[b]? := fun {b t} e n1 n2 => by
        have hb := ho5.lt e
        refine (hb10.block b (show b < w9.heap.size by omega) (own_ne e H5.out.op (by simpa using n1)) fun e2 => own_ne e (H5.out.ow b e2.symm) (by simpa using n2) rfl).trans (HST9.out b t e n1)
      have hv9 : w10.ownsRow 0 75 2 v9 Pn.length (erow φ' Pn) := own_base (own_same HO9.out fun g hg => by
        have hlt := HO9.out.lt g hg
        refine hb10.block g hlt.2 (by have := HPW.out; omega) fun e => ?_
        have := hrl g e.symm
        omega) (Nat.zero_le _)
      have hcw : (waitM M2 (.made n nx)).waits = M2.waits ++ [.made n nx] := rfl
      have hh10 : HeadR k p (waitM M2 (.made n nx)) φ' oB w10 v9 vs5 v10 vk5 pl5 e0 e1 lf5 := by
        refine ⟨hx10, exB (exA H5.out.op), ?_, fun g hg => exB (a3 g hg), own_same H5.out.syn fun g hg => st10 (H5.out.os g hg) (by simp) (by simp), fun g hg => exB (exA (H5.out.os g hg)), ?_, b3, H5.out.plan, fun h0 => ?_⟩
        · show w10.ownsRow 0 _ 2 v9 (doC M2.now (.made n nx)).length (erow φ' (doC M2.now (.made n nx)))
          rw [← HPN.out]
          exact hv9
        · rw [hcw, crow_snoc, List.length_append, ← HCS.out]
          exact hr10
        · obtain ⟨u1, u2, u3, u4⟩ := H5.out.left h0
          exact ⟨u1, u2, own_same u3 fun g hg => st10 (u4 g hg) (by simp) (by simp), fun g hg => exB (exA (u4 g hg))⟩
      have h10 : RelR k p (waitM M2 (.made n nx)) φ' oB (K + 2) L w10 := by
        refine ⟨R5.out.fine.wait HCG.out fun n' i e => ?_, b2, ⟨v9, vs5, v10, vk5, pl5, e0, e1, lf5, hh10⟩, fun i hi => ?_, ⟨R5.out.ops.1, by have := R5.out.ops.2; show M2.ops ≤ ((K + 2 : Nat) : Int); omega⟩, R5.out.cut, R5.out.opb, ?_⟩
        · injection e with e1 e2
          subst e2
          rw [HM2.out]
          show nx < (failsM M).next + 1
          rw [HNX.out]
          omega
        · rcases live_wait HCG.out hi with h1 | ⟨n', e⟩
          · exact ⟨(R5.out.file i h1).1.mono (fun e ht => st10 e (by rcases ht with rfl | rfl <;> simp) (by rcases ht with rfl | rfl <;> simp)) (fun e => exB (exA e)), (R5.out.file i h1).2⟩
          · injection e with e1 e2
            subst e2
            have e3 : M2.fs nx = ⟨[], 0⟩ := by rw [HM2.out, HNX.out]; exact if_pos rfl
            show FileAtR k φ' oB w10 nx (M2.fs nx) ∧ (M2.fs nx).b.length ≤ L
            rw [e3]
            have := HFA.out
            rw [← HNX.out] at this
            exact ⟨this.mono (fun e ht => st10 e (by rcases ht with rfl | rfl <;> simp) (by rcases ht with rfl | rfl <;> simp)) (fun e => exB (exA e)), Nat.zero_le _⟩
        · rw [hcw, List.length_append]
          show M2.syn.length + (M2.waits.length + 1) ≤ K + 2
          have := R5.out.size
          omega
      have T10 := (T5'.out.trans a4).trans b4
      have HBA10 := HBY.out _ HB1 _ _ ((T15.out.trans a4).trans b4)
      have hri : Rises Pn := by rw [HPN.out]; exact doC_rises R5.out.fine.rnow _
      have hgn : getP Pn n = some nx := by
        rw [HPN.out]
        show getP (setP M2.now n (some nx)) n = some nx
        rw [getP_set, if_pos rfl]
      obtain ⟨M3, hM3⟩ : ∃ x, x = waitM M2 (.made n nx) := ⟨_, rfl⟩
      have hn3 : M3.now = Pn := by rw [hM3, HPN.out]; rfl
      have hl3 : Live M3 nx := by rw [hM3]; exact .inr (.inr ⟨n, List.mem_append.2 (.inr (List.mem_singleton.2 rfl))⟩)
      rw [← hM3] at hh10 h10
      have HM3 := Lib.hid hM3
      have CF2 := Lib.hid (find_any φ' v9 Pn n w10 (Ents.own hv9) hri)
      obtain ⟨A9, c9, rfl⟩ := row_slC hv9
      have HG := Lib.hid hgn
      have HN3 := Lib.hid hn3
      have HL3 := Lib.hid hl3
      have HH10 := Lib.hid hh10
      have R10 := Lib.hid h10
      have T10' := Lib.hid T10
      have y0 := hx10.cellv (i := 0) rfl
      have hhx := hx10
      clear hM3 hn3 hl3 hgn hri hh10 h10 T10 hv9 st10 b1 b2 b3 b4 exB a1 a2 a3 a4 exA T59 T910 hr10 hat10 hx10 hcw hrl hq5 hq9 s59 s910 ho5
      go_upto_region 12 with (first
        | (go_at_call 32; (with_reducible refine CF2.out.mono ?_); rintro e w11 ⟨kx2, he, PL2, hb11⟩; rw [HG.out] at he; have he2 : e = .returned (.tuple #[.int .i64 (kx2 : Nat), .bool true]) := he; clear he; subst he2)
        | fail)
      have h11 := R10.out.ext hb11
      have hh11 := HH10.out.mono (w' := w11) (o' := oB) (fun e _ _ => hb11.block _ (R10.out.own.lt e)) id
      have hg3 : getP M3.now n = some nx := by rw [HN3.out]; exact HG.out
      obtain ⟨i2, ad, ea, hc⟩ := RelR.found2 hh11 hg3 (by rw [HN3.out]; exact PL2)
      rw [HN3.out] at i2
      subst ea
      have i1 := Int.natCast_nonneg kx2
      obtain ⟨A, c, s0, l0, hs0, hl0, f1, f2, f3, f4, f5, f6⟩ := h11.at_file HL3.out
      have RX := Lib.hid h11
      have TX := Lib.hid (T10'.out.trans (Turn.below R10.out.own hb11))
      have HBA := HBA10.ext hb11
      have HBX := Bytes.own f3
      have hx2 := hh11.blk
      have y0' := hx2.cellv (i := 0) rfl
      have z0 := f1.cellv (i := 0) rfl
      have FX := f1
      have F2 := Lib.hid f2
      have HL0 := Lib.hid hl0
      have HS0 := Lib.hid hs0
      clear h11 hh11 f1 f2 f3 f4 hg3 hl0 hs0 PL2 y0 hhx HBA10
      go_wp2_with (first
        | (at_builtin; refine wpList_append_bytes rfl (.const (.slice none 0 0)) (.tmp 96) _ rfl w11.heap.size hbT (xs := []) rfl (World.ownsRow_nil _ _ _ _) rfl HBX (by omega) (Nat.le_refl _) ?_; intro v3 w3 ho3 hg3 hat3; rw [List.nil_append, Nat.zero_add] at ho3; have hb3 : Below w11.heap.size w11 w3 := ⟨hg3.os, hg3.tape, hg3.output, hg3.size, fun k hk => hg3.block k hk (fun e => by cases e)⟩; have hB3 := HBA.ext hb3; clear hg3 hat3)
        | (at_builtin; refine wpList_append_bytes rfl (.tmp 97) (.tmp 98) _ rfl w11.heap.size hbT rfl ho3 rfl hB3 (by omega) hb3.size ?_; intro v4 w4 ho4 hg4 hat4; have hb4 := below_own hb3 ho3 (Nat.le_refl _) hg4 hb3.size; have hx4 := FX.ext hb4)
        | ((with_reducible refine gd_store ?_); refine wpList_store_cell rfl 26 (.tmp 101) (.tmp 99) rfl (i := 0) (v := v4) hx4 (show 0 < 2 by decide) (by kernel_rfl) (own_one ho4) rfl rfl ?_; intro w5 hx5 hg5)
        | fail)
      go_ret
      have ho := RX.out.own
      have hfl := ho.lt F2.out
      have s4 := hb4.size
      have s5 := hg5.size
      have st : ∀ {b : Nat} {t : Tag}, oB b = some (k, t) → t ≠ .file nx → t ≠ .byt nx → w5.heap[b]? = w11.heap[b]? := fun {b t} e n1 _ => by
        have hb := ho.lt e
        rw [same_of hg5 (by omega) e (one_some F2.out) n1, hb4.block b hb]
      have TT : Turn k oB oB w11 w5 := (Turn.below ho hb4).trans (Turn.wrote (ho.more s4) hg5 F2.out)
      have hv4 : w5.ownsRow 0 5 1 v4 (l0.length + l.length) (bv (l0 ++ l)) := own_base (own_same ho4 fun g hg => hg5.block g (ho4.lt g hg).2 fun e => by
        injection e with e
        subst e
        have := (ho4.lt _ hg).1
        omega) (Nat.zero_le _)
      obtain ⟨o', q1, q2, q3, q4⟩ : ∃ o' : Own, (∀ b, b < w11.heap.size → o' b = oB b) ∧ OwnIn o' w5 ∧ (∀ g, v4.ownBlock = some g → o' g = some (k, .byt nx)) ∧ Turn k oB o' w11 w5 := by
        cases hv : v4.ownBlock with
        | none => exact ⟨oB, fun _ _ => rfl, ho.more TT.size, fun g hg => (by cases hg), TT⟩
        | some g =>
          have hlt := ho4.lt g hv
          refine ⟨give oB g (k, .byt nx), fun b hb => give_ne (by omega), (ho.more TT.size).give (by omega) _, fun g' hg => ?_, TT.give hlt.1 _⟩
          injection hg with hg
          subst hg
          exact give_same _ _ _
      have ex : ∀ {b : Nat} {x : Nat × Tag}, oB b = some x → o' b = some x := fun e => by rw [q1 _ (ho.lt e)]; exact e
      have hfin : RelR k p (app0 nx l M3) φ' o' (K + 2) (L + l.length) w5 := by
        refine RelR.file_set (RX.out.more (by omega) (Nat.le_refl _)) st ex q2 ⟨v4, ?_, ex F2.out, ?_, q3⟩ ?_ (by omega) ?_
        · show Blk w5 (φ' nx) _ #[v4, .int .i64 ((M3.fs nx).s : Nat)]
          rw [HS0.out]
          exact hx5
        · show w5.ownsRow 0 _ 1 v4 ((M3.fs nx).b ++ l).length (bv ((M3.fs nx).b ++ l))
          rw [HL0.out, List.length_append]
          exact hv4
        · show ((M3.fs nx).b ++ l).length ≤ L + l.length
          rw [List.length_append, HL0.out]
          omega
        · show (M3.fs nx).s ≤ ((M3.fs nx).b ++ l).length
          rw [List.length_append, HL0.out, HS0.out]
          omega
      refine ⟨by unfold goesB; rw [HF.out, HOK.out]; rfl, o', φ', ?_, TX.out.trans q4⟩
      unfold appM
      rw [thenM_go HOK.out HF.out, app1, goes_now HF.out, HGO.out]
      have hfin2 := hfin
      rw [HM3.out, HM2.out, HNX.out] at hfin2
      exact hfin2
end
end Go.Mun
