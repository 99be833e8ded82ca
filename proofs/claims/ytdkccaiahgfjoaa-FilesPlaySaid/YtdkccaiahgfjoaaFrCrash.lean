/- The reference: the power fails. -/
import Derived.Test.YtdkccaiahgfjoaaFrIn
import Derived.Test.YtdkccaiahgfjoaaFrPlan
import Derived.Test.YtdkccaiahgfjoaaFrStart
import Derived.Test.YtdkccaiahgfjoaaFsFails
import Derived.Test.YtdkccaiahgfjoaaLate
namespace Go.Mun
open Go Go.RowKit Go.Proofs Go.Maps

theorem own_away {w w' : World} {q n : Nat} {e : TypeId} {size : Nat} {v vo : Value} {xs : List Value} (h : w.ownsRow q e size v n xs) (hg : w.grownBy w' vo.ownBlock) (hvo : ∀ b, vo.ownBlock = some b → b < q) : w'.ownsRow q e size v n xs :=
  own_same h fun g hv => hg.block g (h.lt g hv).2 fun e => by have := hvo g e.symm; have := (h.lt g hv).1; omega
/-- a file that was made since q -/
structure NewF (q at0 : Nat) (l' : List UInt8) (w : World) (g : Nat) (u : Value) : Prop where
  low : q ≤ g
  blk : Blk w g 70 #[u, .int .i64 (at0 : Nat)]
  row : w.ownsRow q 5 1 u at0 (bv l')
  ne : ∀ b, u.ownBlock = some b → b ≠ g
theorem NewF.away {q at0 : Nat} {l' : List UInt8} {w w' : World} {g : Nat} {u vo : Value} (h : NewF q at0 l' w g u) (hg : w.grownBy w' vo.ownBlock) (hvo : ∀ b, vo.ownBlock = some b → b < q) : NewF q at0 l' w' g u :=
  ⟨h.low, h.blk.grown hg (fun e => by have := hvo g e.symm; have := h.low; omega), own_away h.row hg hvo, h.ne⟩
theorem NewF.ext {q at0 : Nat} {l' : List UInt8} {w w' : World} {g : Nat} {u : Value} (h : NewF q at0 l' w g u) (hb : Below w.heap.size w w') : NewF q at0 l' w' g u := ⟨h.low, h.blk.ext hb, own_ext h.row hb, h.ne⟩
/-- what each operation of the region writes -/
def SCr (q j at0 : Nat) (ad : Addr) (n c : Nat) (vo : Value) (nm : Ky) (fb : Nat) (Ab : Option Addr) (lb cb : Nat) (l' : List UInt8) : Nat → Value → World → Prop
  | 0, v, _ => v = vo
  | 1, v, _ => v = .slice (some ad) n c
  | 2, v, _ => v = .int .i64 (j : Nat)
  | 3, v, _ => v = .pointer (some (ad.add (j * 2)))
  | 4, v, _ => v = .pointer (some (ad.add (j * 2)))
  | 5, v, _ => v = .string ⟨nm.toArray⟩
  | 6, v, _ => v = .pointer (some ⟨fb, 0, none⟩)
  | 7, v, _ => v = .pointer (some ⟨fb, 0, none⟩)
  | 8, v, _ => v = .pointer (some ⟨fb, 0, none⟩)
  | 9, v, _ => v = .slice Ab lb cb
  | 10, v, _ => v = .int .i64 (at0 : Nat)
  | 11, v, _ => v = .slice Ab at0 cb
  | 12, v, w => w.ownsRow q 5 1 v at0 (bv l')
  | 13, v, _ => v = .int .i64 (at0 : Nat)
  | 14, v, w => ∃ u, v = .agg #[u, .int .i64 (at0 : Nat)] ∧ w.ownsRow q 5 1 u at0 (bv l')
  | 15, v, w => ∃ g u, v = .pointer (some ⟨g, 0, none⟩) ∧ NewF q at0 l' w g u
  | 16, v, w => ∃ g u, v = .agg #[.string ⟨nm.toArray⟩, .pointer (some ⟨g, 0, none⟩)] ∧ NewF q at0 l' w g u
  | 17, v, w => ∃ h g u, v = .slice (some ⟨h, 0, none⟩) 1 1 ∧ q ≤ h ∧ Blk w h 75 #[.string ⟨nm.toArray⟩, .pointer (some ⟨g, 0, none⟩)] ∧ NewF q at0 l' w g u
  | 18, _, _ => True
  | _, _, _ => True
theorem SCr_stays (q j at0 : Nat) (ad : Addr) (n c : Nat) (vo : Value) (nm : Ky) (fb : Nat) (Ab : Option Addr) (lb cb : Nat) (l' : List UInt8) (hvo : ∀ b, vo.ownBlock = some b → b < q) : ∀ i v (wa wb : World), wa.grownBy wb vo.ownBlock → SCr q j at0 ad n c vo nm fb Ab lb cb l' i v wa → SCr q j at0 ad n c vo nm fb Ab lb cb l' i v wb
  | 0, _, _, _, _, h => h
  | 1, _, _, _, _, h => h
  | 2, _, _, _, _, h => h
  | 3, _, _, _, _, h => h
  | 4, _, _, _, _, h => h
  | 5, _, _, _, _, h => h
  | 6, _, _, _, _, h => h
  | 7, _, _, _, _, h => h
  | 8, _, _, _, _, h => h
  | 9, _, _, _, _, h => h
  | 10, _, _, _, _, h => h
  | 11, _, _, _, _, h => h
  | 12, _, _, _, hb, h => own_away h hb hvo
  | 13, _, _, _, _, h => h
  | 14, _, _, _, hb, ⟨u, e, h⟩ => ⟨u, e, own_away h hb hvo⟩
  | 15, _, _, _, hb, ⟨g, u, e, h⟩ => ⟨g, u, e, h.away hb hvo⟩
  | 16, _, _, _, hb, ⟨g, u, e, h⟩ => ⟨g, u, e, h.away hb hvo⟩
  | 17, _, _, _, hb, ⟨hh, g, u, e, hq, hx, h⟩ => ⟨hh, g, u, e, hq, hx.grown hb (fun e2 => by have := hvo hh e2.symm; omega), h.away hb hvo⟩
  | 18, _, _, _, _, h => h
  | _ + 19, _, _, _, _, h => h
/-- how far the region has come -/
structure JCr (q B at0 j : Nat) (vo : Value) (xs : List Value) (nm : Ky) (l' : List UInt8) (L : Nat → Bool) (V : Nat → Value) (w : World) : Prop where
  row0 : L 18 = false → w.ownsRow B 75 2 vo j xs
  row1 : L 18 = true → ∃ g u, NewF q at0 l' w g u ∧ w.ownsRow B 75 2 (V 18) (j + 1) (xs ++ [.string ⟨nm.toArray⟩, .pointer (some ⟨g, 0, none⟩)]) ∧ ((V 18).ownBlock = vo.ownBlock ∨ ∃ b, (V 18).ownBlock = some b ∧ q ≤ b) ∧ (∀ b, (V 18).ownBlock = some b → b ≠ g ∧ u.ownBlock ≠ some b)
  row2 : L 19 = true → V 19 = V 18
  low : q ≤ w.heap.size
section
variable {q B at0 j : Nat} {vo : Value} {xs : List Value} {nm : Ky} {l' : List UInt8} {L : Nat → Bool} {V : Nat → Value} {w w' : World}
theorem JCr.far (h : JCr q B at0 j vo xs nm l' L V w) {k : Nat} {v : Value} (h18 : (18 : Nat) ≠ k) (h19 : (19 : Nat) ≠ k) : JCr q B at0 j vo xs nm l' (updL L k) (upd V k v) w :=
  ⟨fun e => h.row0 (by rwa [updL_ne h18] at e), fun e => by rw [upd_ne h18]; exact h.row1 (by rwa [updL_ne h18] at e), fun e => by rw [upd_ne h18, upd_ne h19]; exact h.row2 (by rwa [updL_ne h19] at e), h.low⟩
theorem JCr.ext (h : JCr q B at0 j vo xs nm l' L V w) (hb : Below w.heap.size w w') : JCr q B at0 j vo xs nm l' L V w' :=
  ⟨fun e => own_ext (h.row0 e) hb, fun e => by obtain ⟨g, u, h1, h2, h3, h4⟩ := h.row1 e; exact ⟨g, u, h1.ext hb, own_ext h2 hb, h3, h4⟩, h.row2, Nat.le_trans h.low hb.size⟩
theorem JCr.app (h : JCr q B at0 j vo xs nm l' L V w) (h19 : L 19 = false) {v : Value} {g : Nat} {u : Value} (ho : w'.ownsRow B 75 2 v (j + 1) (xs ++ [.string ⟨nm.toArray⟩, .pointer (some ⟨g, 0, none⟩)])) (hg : w.grownBy w' vo.ownBlock) (hat : v.ownBlock = vo.ownBlock ∨ v.ownBlock = some w.heap.size) (hvo : ∀ b, vo.ownBlock = some b → b < q) (hn : NewF q at0 l' w g u) : JCr q B at0 j vo xs nm l' (updL L 18) (upd V 18 v) w' := by
  refine ⟨fun e => ?_, fun _ => ⟨g, u, hn.away hg hvo, by rw [upd_same]; exact ho, by rw [upd_same]; exact hat.imp id fun e => ⟨_, e, h.low⟩, fun b hb => ?_⟩, fun e => ?_, Nat.le_trans h.low hg.size⟩
  · rw [updL_same] at e; cases e
  · rw [upd_same] at hb
    rcases hat with e1 | e1
    · have h1 := hvo b (by rw [← e1]; exact hb)
      exact ⟨by have := hn.low; omega, fun e2 => by have := (hn.row.lt b e2).1; omega⟩
    · rw [e1] at hb
      injection hb with hb
      exact ⟨by have := hn.blk.lt; omega, fun e2 => by have := (hn.row.lt b e2).2; omega⟩
  · rw [updL_ne (by decide), h19] at e; cases e
theorem JCr.asn (h : JCr q B at0 j vo xs nm l' L V w) (h18 : L 18 = true) : JCr q B at0 j vo xs nm l' (updL L 19) (upd V 19 (V 18)) w := by
  refine ⟨fun e => ?_, fun _ => ?_, fun _ => ?_, h.low⟩
  · rw [updL_ne (by decide), h18] at e; cases e
  · rw [upd_ne (by decide)]; exact h.row1 h18
  · rw [upd_same, upd_ne (by decide)]
end
/-- a new row, a new file, new bytes get their owners -/
def giveV (o : Own) (v : Value) (x : Nat × Tag) : Own := match v.ownBlock with | some b => give o b x | none => o
theorem giveV_some {o : Own} {v : Value} {x : Nat × Tag} {b : Nat} (h : v.ownBlock = some b) : giveV o v x b = some x := by unfold giveV; rw [h]; exact give_same _ _ _
theorem giveV_ne {o : Own} {v : Value} {x : Nat × Tag} {b : Nat} (h : v.ownBlock ≠ some b) : giveV o v x b = o b := by
  unfold giveV
  cases e : v.ownBlock with
  | none => rfl
  | some c => exact give_ne fun e2 => h (by rw [e, e2])
theorem OwnIn.giveV {o : Own} {w : World} (h : OwnIn o w) {v : Value} {x : Nat × Tag} (hb : ∀ b, v.ownBlock = some b → b < w.heap.size) : OwnIn (giveV o v x) w := by
  intro c hc
  rw [giveV_ne fun e => by have := hb c e; omega]
  exact h c hc
theorem Turn.giveV {k : Nat} {o o' : Own} {w w' : World} (h : Turn k o o' w w') {v : Value} (hb : ∀ b, v.ownBlock = some b → w.heap.size ≤ b) (t : Tag) : Turn k o (giveV o' v (k, t)) w w' := by
  unfold Go.Mun.giveV
  cases e : v.ownBlock with
  | none => exact h
  | some c => exact h.give (hb c e) t
theorem crow_get {φ : Nat → Nat} : ∀ (l : List Chg) {k j : Nat} {c : Chg}, l[k]? = some c → j < 3 → (crow φ l)[k * 3 + j]? = (chR φ c)[j]?
  | [], k, j, c, h, _ => by cases h
  | d :: l, k, j, c, h, hj => by
    show (chR φ d ++ crow φ l)[k * 3 + j]? = _
    cases k with
    | zero =>
      injection h with h
      subst h
      rw [List.getElem?_append_left (by rw [chR_length]; omega)]
      congr 1
      omega
    | succ k =>
      rw [List.getElem?_append_right (by rw [chR_length]; omega), chR_length, show (k + 1) * 3 + j - 3 = k * 3 + j by omega]
      exact crow_get l h hj
theorem row_chg {w : World} {base g n c : Nat} {e : TypeId} {φ : Nat → Nat} {l : List Chg} (ho : w.ownsRow base e 3 (.slice (some ⟨g, 0, none⟩) n c) n (crow φ l)) {k : Nat} {x : Chg} (hx : l[k]? = some x) : w.rangeAt g (k * 3) (chR φ x) := by
  intro j v hv
  have hj : j < 3 := by have := (List.getElem?_eq_some_iff.1 hv).1; rwa [chR_length] at this
  have := ho.cells (g := g) rfl (k * 3 + j) v ((crow_get l hx hj).trans hv)
  rwa [Addr.add_mid, Nat.zero_add] at this
theorem grown_low {w w' : World} {r : Option Nat} {n : Nat} (hg : w.grownBy w' r) (hr : ∀ x, r = some x → n ≤ x) (hn : n ≤ w.heap.size) : Below n w w' :=
  ⟨hg.os, hg.tape, hg.output, hg.size, fun k hk => hg.block k (by omega) (fun e => by have := hr k e.symm; omega)⟩
/-- a round of the second loop -/
theorem crash_round {k B : Nat} {φ' : Nat → Nat} {o o' : Own} {w wr w3 : World} {P : PL Nat} {cut : Int} {fs : Nat → FileS} {j : Nat} {vo v : Value} {at0 g : Nat} {u : Value} {l' : List UInt8} {p : Ky × Nat}
    (hBw : w.heap.size ≤ B) (hr : Rises P) (hon : Once P) (hp : P[j]? = some p) (ho : wr.ownsRow B 75 2 vo j (erow φ' (P.take j))) (how : ∀ b, vo.ownBlock = some b → o' b = some (k, .now)) (hf : ∀ q ∈ P.take j, FileAtR k φ' o' wr q.2 (cutF cut (fs q.2)))
    (hT : Turn k o o' w wr) (hO : OwnIn o' wr) (hg : wr.grownBy w3 vo.ownBlock) (hn : NewF wr.heap.size at0 l' w3 g u) (h3 : w3.ownsRow B 75 2 v (j + 1) (erow φ' (P.take j) ++ [.string ⟨p.1.toArray⟩, .pointer (some ⟨g, 0, none⟩)]))
    (hat : v.ownBlock = vo.ownBlock ∨ ∃ b, v.ownBlock = some b ∧ wr.heap.size ≤ b) (hne : ∀ b, v.ownBlock = some b → b ≠ g ∧ u.ownBlock ≠ some b) (hs : (cutF cut (fs p.2)).s = at0) (hl : (cutF cut (fs p.2)).b = l') (hll : l'.length = at0) :
    ∃ φ2 o2, w3.ownsRow B 75 2 v (j + 1) (erow φ2 (P.take (j + 1))) ∧ (∀ b, v.ownBlock = some b → o2 b = some (k, .now)) ∧ (∀ q ∈ P.take (j + 1), FileAtR k φ2 o2 w3 q.2 (cutF cut (fs q.2))) ∧ Turn k o o2 w w3 ∧ OwnIn o2 w3 := by
  have hws := hT.size
  obtain ⟨hj, hpx⟩ := List.getElem?_eq_some_iff.1 hp
  have htk : P.take (j + 1) = P.take j ++ [p] := by rw [List.take_succ_eq_append_getElem hj, hpx]
  have hdist : ∀ q ∈ P.take j, q.2 ≠ p.2 := fun q hq e => by
    have h1 := hon q (List.mem_of_mem_take hq) p (List.mem_of_getElem? hp) e
    obtain ⟨i, hi, rfl⟩ := List.getElem_of_mem hq
    rw [List.length_take] at hi
    have h2 := List.pairwise_iff_getElem.1 hr i j (by omega) hj (by omega)
    rw [hpx, ← h1, List.getElem_take] at h2
    rw [ltB_irrefl] at h2
    cases h2
  let φ2 : Nat → Nat := fun i => if i = p.2 then g else φ' i
  have f1 : φ2 p.2 = g := if_pos rfl
  have f2 : ∀ i, i ≠ p.2 → φ2 i = φ' i := fun i h => if_neg h
  let o2 : Own := giveV (giveV (give o' g (k, .file p.2)) u (k, .byt p.2)) v (k, .now)
  have hu : ∀ b, u.ownBlock = some b → wr.heap.size ≤ b := fun b e => (hn.row.lt b e).1
  have hu3 : ∀ b, u.ownBlock = some b → b < w3.heap.size := fun b e => (hn.row.lt b e).2
  have hg3 := hn.blk.lt
  have hgl := hn.low
  have hv3 : ∀ b, v.ownBlock = some b → b < w3.heap.size := fun b e => (h3.lt b e).2
  have hvl : ∀ b, v.ownBlock = some b → w.heap.size ≤ b := fun b e => Nat.le_trans hBw (h3.lt b e).1
  have ex : ∀ {b x}, o' b = some x → o2 b = some x := fun {b x} e => by
    have hb := hO.lt e
    show giveV _ v _ b = _
    by_cases hvb : v.ownBlock = some b
    · rw [giveV_some hvb]
      rcases hat with e1 | ⟨c, e1, hc⟩
      · rw [← how b (by rw [← e1]; exact hvb), e]
      · rw [hvb] at e1; injection e1 with e1; omega
    · rw [giveV_ne hvb, giveV_ne (fun e2 => by have := hu b e2; omega), give_ne (by omega)]
      exact e
  have ov : ∀ b, v.ownBlock = some b → o2 b = some (k, .now) := fun b e => giveV_some e
  have ou : ∀ b, u.ownBlock = some b → o2 b = some (k, .byt p.2) := fun b e => by
    show giveV _ v _ b = _
    rw [giveV_ne fun e2 => (hne b e2).2 e]
    exact giveV_some e
  have og : o2 g = some (k, .file p.2) := by
    show giveV _ v _ g = _
    rw [giveV_ne fun e2 => (hne g e2).1 rfl, giveV_ne fun e2 => hn.ne g e2 rfl]
    exact give_same _ _ _
  have hT3 : Turn k o o' w w3 := ⟨hg.os.trans hT.os, hg.tape.trans hT.tape, hg.output.trans hT.output, Nat.le_trans hT.size hg.size, fun b hb hnb => (hg.block b (by omega) (fun e => by have := (ho.lt b e.symm).1; omega)).trans (hT.block b hb hnb), hT.old, hT.new⟩
  refine ⟨φ2, o2, ?_, ov, fun q hq => ?_, ?_, ?_⟩
  · rw [htk, erow_append]
    have e1 : erow φ2 (P.take j) = erow φ' (P.take j) := erow_congr fun q hq => f2 _ (hdist q hq)
    have e2 : erow φ2 [p] = [.string ⟨p.1.toArray⟩, .pointer (some ⟨g, 0, none⟩)] := by
      show [_, ptr (φ2 p.2)] = _
      rw [f1]
    rw [e1, e2]
    exact h3
  · rw [htk] at hq
    rcases List.mem_append.1 hq with hq | hq
    · obtain ⟨x, g1, g2, g3, g4⟩ := hf q hq
      have e3 := f2 _ (hdist q hq)
      have sm : ∀ {b t}, o' b = some (k, t) → t ≠ .now → w3.heap[b]? = wr.heap[b]? := fun {b t} e ht => hg.block b (hO.lt e) fun e2 => by
        have h1 := how b e2.symm
        rw [e] at h1
        injection h1 with h1
        injection h1 with _ h1
        exact ht h1
      exact ⟨x, by rw [e3]; exact g1.same (sm g2 (by simp)), by rw [e3]; exact ex g2, own_same g3 fun b hb => sm (g4 b hb) (by simp), fun b hb => ex (g4 b hb)⟩
    · rw [List.mem_singleton.1 hq]
      refine ⟨u, ?_, by rw [f1]; exact og, ?_, ou⟩
      · rw [f1, hs]; exact hn.blk
      · rw [hl, hll]; exact own_base hn.row (Nat.zero_le _)
  · exact ((hT3.give (b := g) (by omega) (.file p.2)).giveV (fun b e => by have := hu b e; omega) (.byt p.2)).giveV hvl .now
  · have hO3 : OwnIn o' w3 := fun b hb => hO b (Nat.le_trans hg.size hb)
    exact ((hO3.give hg3 _).giveV hu3).giveV hv3
set_option maxRecDepth 100000 in
set_option maxHeartbeats 8000000 in
theorem crash_any {k p : Nat} {M : FSs} {φ : Nat → Nat} {o : Own} {K L : Nat} {w : World} (h : RelR k p M φ o K L w) (hop : M.op = 0) (hK : K ≤ 100000) (hL : L ≤ 1000000000) :
    Calls Try.prog 46 #[.pointer (some ⟨p, 0, none⟩)] w fun e w' => e = .returned (.tuple #[]) ∧ ∃ o' φ', RelR k p (crashM M) φ' o' K L w' ∧ Turn k o o' w w' := by
  obtain ⟨vn, vs, vw, vk, pl, c0, c1, lf, hh⟩ := h.head
  obtain ⟨hlf, hc1, hkr, hko⟩ := hh.left (by omega)
  subst hc1
  have hx := hh.blk
  have H := Lib.hid hh
  have HR := Lib.hid h
  have HKR := Lib.hid hkr
  have hsz := h.size
  have hcb := h.cut
  obtain ⟨AW, cW, rfl⟩ := row_slC hh.waits
  obtain ⟨AS, cS, rfl⟩ := row_slC hh.syn
  obtain ⟨AK, cK, rfl⟩ := row_slC hkr
  have y1 := hx.cellv (i := 1) rfl
  have HX := Lib.hid (fun (w' : World) (hb : Below w.heap.size w w') => hx.ext hb)
  have HWR := Lib.hid (fun (w' : World) (hb : Below w.heap.size w w') => own_ext hh.waits hb)
  have HSR := Lib.hid (Ents.own hh.syn)
  have hTE := entsTy
  have hbT := bytesTyC
  have HOK := Lib.hid h.fine.ok
  have HRS := Lib.hid h.fine.rsyn
  have hu := Try.underlying72
  have hi3 : (Try.prog.info? 72).map (·.size) = some 3 := by kernel_rfl
  obtain ⟨nw, hnw⟩ : ∃ x, x = M.waits.length := ⟨_, rfl⟩
  rw [← hnw] at hsz
  have HNW := Lib.hid hnw
  obtain ⟨ns, hns⟩ : ∃ x, x = M.syn.length := ⟨_, rfl⟩
  rw [← hns] at hsz
  have HNS := Lib.hid hns
  obtain ⟨nk, hnk⟩ : ∃ x, x = M.keep.length := ⟨_, rfl⟩
  have HNK := Lib.hid hnk
  rw [← hnw] at HWR
  rw [← hnw, ← hnk] at HX
  clear hh h hop hlf hkr hko hx hnw hns hnk
  go_enter Try.func46, Try.ntmps46
  go_upto_block 0 with (fail)
  go_cut [2] (fun s2 wx => ∃ (A : Option Addr) (c : Nat), s2 = .slice A (left M).length c ∧ Ents φ wx s2 (left M) ∧ Below w.heap.size w wx)
  case first =>
    go_wp2_with fail
    go_loopw [2, 3] (fun sv iv wr => ∃ (j : Nat) (A : Option Addr) (c : Nat), j ≤ nw ∧ iv = .int .i64 j ∧ sv = .slice A (doL M.syn (M.waits.take j)).length c ∧ Ents φ wr sv (doL M.syn (M.waits.take j)) ∧ keptN M.keep j (nw - j) = kept M ∧ Below w.heap.size w wr) (fun _ iv _ => nw - (RowKit.intOf iv).toNat)
    case atStart => exact ⟨0, _, _, Nat.zero_le _, rfl, rfl, HSR.out, by unfold kept; rw [HNW.out]; rfl, Below.refl _ _⟩
    case round =>
      obtain ⟨j, A, c, hj, rfl, rfl, hE, hkp, hB⟩ := hrel
      have HE := Lib.hid hE
      have HKP := Lib.hid hkp
      have hxr := HX.out wr hB
      have y2 := hxr.cellv (i := 2) rfl
      have y6 := hxr.cellv (i := 6) rfl
      clear hE hkp
      by_cases hlt : j < nw
      · have f1 : decide ((j : Int) < (nw : Int)) = true := decide_eq_true (by omega)
        by_cases h0 : nk = 0
        · have g1 : decide ((0 : Int) < (nk : Int)) = false := decide_eq_false (by omega)
          go_upto_region 2 with (fail)
          go_quiet (fail)
          have hBq := below_step hB (below_drewN (Below.refl wr.heap.size wr) nq)
          go_wp2
          go_meet
          refine ⟨A, c, ?_, ?_, hBq⟩
          · rw [show left M = doL M.syn (M.waits.take j) from by unfold left; rw [← HKP.out, show nw - j = (nw - j - 1) + 1 by omega, keptN, if_pos (.inl (by rw [← HNK.out]; exact h0))]]
          · rw [show left M = doL M.syn (M.waits.take j) from by unfold left; rw [← HKP.out, show nw - j = (nw - j - 1) + 1 by omega, keptN, if_pos (.inl (by rw [← HNK.out]; exact h0))]]
            exact HE.out.ext (below_drewN (Below.refl wr.heap.size wr) nq)
        · have g1 : decide ((0 : Int) < (nk : Int)) = true := decide_eq_true (by omega)
          have g2 : decide (0 < nk) = true := decide_eq_true (by omega)
          have hr := Nat.mod_lt j (show 0 < nk by omega)
          obtain ⟨r, hrr⟩ : ∃ r, r = j % nk := ⟨_, rfl⟩
          obtain ⟨b, hb⟩ : ∃ b, b = M.keep.getD (j % M.keep.length) false := ⟨_, rfl⟩
          have HKD := Lib.hid (show M.keep[r]? = some b by rw [hrr, hb, ← HNK.out, List.getD_eq_getElem?_getD, List.getElem?_eq_getElem (by rw [← HNK.out]; exact hr)]; rfl)
          have hkr2 := own_ext HKR.out hB
          rw [← HNK.out] at hkr2
          obtain ⟨gK, rfl⟩ := row_atC hkr2 (by omega)
          have hkc := hkr2.cellAt r (by omega)
          rw [List.getElem?_map, HKD.out] at hkc
          simp only [Option.map_some] at hkc
          have HB1 := Lib.hid hb
          have hr0 : r < nk := by rw [hrr]; exact hr
          have qr : ((j : Int)).tmod ((nk : Nat) : Int) = ((r : Nat) : Int) := by rw [Int.tmod_eq_emod_of_nonneg (by omega), hrr]; rfl
          have q1 : (0 : Int) ≤ (r : Nat) := by omega
          have q2 : ((r : Nat) : Int) < (nk : Nat) := by omega
          have qe : ((nk : Int) == 0) = false := by rw [beq_eq_false_iff_ne]; omega
          have HRR := Lib.hid hrr
          clear hb hrr hr
          cases b
          · -- not kept
            go_upto_region 2 with (fail)
            go_quiet (fail)
            have hBq := below_step hB (below_drewN (Below.refl wr.heap.size wr) nq)
            go_wp2
            go_meet
            refine ⟨A, c, ?_, ?_, hBq⟩
            · rw [show left M = doL M.syn (M.waits.take j) from by unfold left; rw [← HKP.out, show nw - j = (nw - j - 1) + 1 by omega, keptN, if_pos (.inr (by rw [← HB1.out]))]]
            · rw [show left M = doL M.syn (M.waits.take j) from by unfold left; rw [← HKP.out, show nw - j = (nw - j - 1) + 1 by omega, keptN, if_pos (.inr (by rw [← HB1.out]))]]
              exact HE.out.ext (below_drewN (Below.refl wr.heap.size wr) nq)
          · -- kept
            go_upto_region 2 with (fail)
            go_quiet (fail)
            have hBq := below_step hB (below_drewN (Below.refl wr.heap.size wr) nq)
            have HKN := Lib.hid (show keptN M.keep (j + 1) (nw - (j + 1)) = kept M by
              have h1 := HKP.out
              rw [show nw - j = (nw - (j + 1)) + 1 by omega, keptN, if_neg] at h1
              · exact h1
              · rintro (h2 | h2)
                · rw [← HNK.out] at h2; omega
                · rw [← HB1.out] at h2; cases h2)
            obtain ⟨cg, hcg⟩ : ∃ c, M.waits[j]? = some c := ⟨_, List.getElem?_eq_getElem (by rw [← HNW.out]; exact hlt)⟩
            have hOk := HOK.out.at hcg
            have HTK := Lib.hid (doL_take (P := M.syn) hcg)
            have hE2 := HE.out.ext (below_drewN (Below.refl wr.heap.size wr) nq)
            have hlen : (doL M.syn (M.waits.take j)).length ≤ 999999 := by
              have h1 := length_doL (M.waits.take j) M.syn
              rw [List.length_take, ← HNS.out] at h1
              omega
            have CD := Lib.hid (done_any φ _ (doL M.syn (M.waits.take j)) cg _ hE2 (doL_rises HRS.out _) hlen hOk)
            have hwr2 := HWR.out _ hBq
            obtain ⟨gW, rfl⟩ := row_atC hwr2 (by omega)
            have hcl := row_chg hwr2 hcg
            generalize wr.drewN nq = wn at hBq CD hwr2 hcl ⊢
            have hxn := HX.out wn hBq
            have y2 := hxn.cellv (i := 2) rfl
            have i1 : (0 : Int) ≤ (j : Nat) := by omega
            have i2 : ((j : Nat) : Int) < (nw : Nat) := by omega
            obtain ⟨l3, hl3⟩ : ∃ x, x = chR φ cg := ⟨_, rfl⟩
            rw [← hl3] at CD hcl
            have HL3 := Lib.hid (show l3.length = 3 by rw [hl3, chR_length])
            clear hkc hxr hxn hl3
            go_wp2_with (first
              | ((with_reducible refine gd_load ?_); refine wpList_load_mid rfl 72 (.tmp 53) rfl gW (j * 3) rfl l3 _ hcl hu rfl (by rw [HL3.out]; exact hi3) ?_)
              | (go_at_call 34; (with_reducible refine CD.out.mono ?_); rintro e w13 ⟨v13, rfl, ho13, hb13⟩; obtain ⟨A13, c13, rfl⟩ := row_slC ho13)
              | fail)
            have hE13 := Ents.own ho13
            have hB13 := below_step hBq hb13
            go_roundw
            case rel => exact ⟨j + 1, _, _, by omega, by go_num, by rw [HTK.out], by rw [HTK.out]; exact hE13, HKN.out, hB13⟩
            case measure => simp [RowKit.intOf]; omega
      · obtain rfl : j = nw := by omega
        have f1 : decide ((j : Int) < (j : Int)) = false := decide_eq_false (by omega)
        go_upto_region 2 with (fail)
        go_quiet (fail)
        have hBq := below_step hB (below_drewN (Below.refl wr.heap.size wr) nq)
        go_wp2
        go_meet
        refine ⟨A, c, ?_, ?_, hBq⟩
        · rw [show left M = doL M.syn (M.waits.take j) from by unfold left; rw [← HKP.out, Nat.sub_self, keptN]]
        · rw [show left M = doL M.syn (M.waits.take j) from by unfold left; rw [← HKP.out, Nat.sub_self, keptN]]
          exact HE.out.ext (below_drewN (Below.refl wr.heap.size wr) nq)
  case rest =>
    obtain ⟨A, c, rfl, hE, hB1⟩ := hcut
    obtain ⟨A', c', eA, _, hcm, hrd⟩ := id hE.at_
    injection eA with eA1 _ eA3
    subst eA1 eA3
    have HRD0 := Lib.hid hrd
    have HRL := Lib.hid (show Rises (left M) from doL_rises HRS.out _)
    have HON := Lib.hid (show Once (left M) from HR.out.fine.once.doL HRS.out (HOK.out.take _))
    obtain ⟨Pn, hPn⟩ : ∃ x, x = (left M).length := ⟨_, rfl⟩
    have hPK : Pn ≤ K := by
      have h1 := length_doL (M.waits.take (kept M)) M.syn
      rw [List.length_take, ← HNS.out, ← HNW.out] at h1
      have h2 : (left M).length = (doL M.syn (M.waits.take (kept M))).length := rfl
      omega
    rw [← hPn]
    have HPN := Lib.hid hPn
    have hN0 : (left M).take Pn = left M := by rw [hPn]; exact List.take_length
    have HN0 := Lib.hid hN0
    clear hrd hE hPn hN0
    go_wp2_with fail
    go_loopw [4, 5] (fun vo iv wr => ∃ (j : Nat) (φ' : Nat → Nat) (o' : Own), j ≤ Pn ∧ iv = .int .i64 (j : Nat) ∧ wr.ownsRow wc.heap.size 75 2 vo j (erow φ' ((left M).take j)) ∧ (∀ b, vo.ownBlock = some b → o' b = some (k, .now)) ∧ (∀ q ∈ (left M).take j, FileAtR k φ' o' wr q.2 (cutF M.cut (M.fs q.2))) ∧ Turn k o o' w wr ∧ OwnIn o' wr ∧ Below wc.heap.size wc wr) (fun _ iv _ => Pn - (RowKit.intOf iv).toNat)
    case atStart => exact ⟨0, φ, o, Nat.zero_le _, rfl, World.ownsRow_nil _ _ _ _, (fun b h => by cases h), (fun q h => by rw [List.take_zero] at h; cases h), Turn.below HR.out.own hB1, HR.out.own.more hB1.size, Below.refl _ _⟩
    case round =>
      obtain ⟨j, φ', o', hj, rfl, ho, how, hf, hT, hO, hBr⟩ := hrel
      have HT := Lib.hid hT
      have HOI := Lib.hid hO
      clear hT hO
      have hB := hB1.trans (hBr.mono hB1.size)
      have hxr := HX.out wr hB
      by_cases hlt : j < Pn
      · have f1 : decide ((j : Int) < (Pn : Int)) = true := decide_eq_true (by omega)
        obtain ⟨q1, hq1⟩ : ∃ q, (left M)[j]? = some q := ⟨_, List.getElem?_eq_getElem (by rw [← HPN.out]; exact hlt)⟩
        have HQ1 := Lib.hid hq1
        obtain ⟨ad, rfl, hcn⟩ := HRD0.out _ _ (erow_at φ hq1).1
        obtain ⟨ad', e2, hcp⟩ := HRD0.out _ _ (erow_at φ hq1).2
        injection e2 with e2
        subst e2
        have hl1 : Live M q1.2 := left_live HR.out.fine ⟨q1, List.mem_of_getElem? hq1, rfl⟩
        obtain ⟨Af, cf, s0, l0, es, el, fb1, fb2, fb3, fb4, fb5, fb6⟩ := RelR.at_file HR.out hl1
        have HCD := Lib.hid (show cutAt M.cut (M.fs q1.2) = if 0 ≤ M.cut then s0 + M.cut.toNat % (l0.length - s0 + 1) else s0 by unfold cutAt; rw [es, el])
        have EL := Lib.hid el
        have hcap := row_cap fb3
        obtain ⟨fb, hfb⟩ : ∃ x, x = φ q1.2 := ⟨_, rfl⟩
        have hcp2 : wr.cell? ⟨(ad.add (j * 2)).block, (ad.add (j * 2)).off + 1, none⟩ = some (.pointer (some ⟨fb, 0, none⟩)) := by
          rw [← Addr.add_add] at hcp
          rw [hfb]
          exact cell_ext hBr hcp
        rw [← hfb] at fb1
        have FB := Lib.hid (fb1.ext hB1)
        have FR := Lib.hid (own_ext fb3 hB1)
        have hzr := fb1.ext hB
        have z0 := hzr.cellv (i := 0) rfl
        have z1 := hzr.cellv (i := 1) rfl
        have y5 := hxr.cellv (i := 5) rfl
        have i1 : (0 : Int) ≤ (j : Nat) := by omega
        have i2 : ((j : Nat) : Int) < (Pn : Nat) := by omega
        clear fb1 fb2 fb3 fb4 hl1 es el hfb hq1 hcp hzr
        by_cases hcut : 0 ≤ M.cut
        · have g1 : decide (0 ≤ M.cut) = true := decide_eq_true hcut
          have hcd := HCD.out
          rw [if_pos hcut] at hcd
          have hmod := Nat.mod_lt M.cut.toNat (show 0 < l0.length - s0 + 1 by omega)
          obtain ⟨kp, hkp⟩ : ∃ x, x = M.cut.toNat % (l0.length - s0 + 1) := ⟨_, rfl⟩
          have QM := Lib.hid (show M.cut.tmod ((l0.length : Int) - (s0 : Int) + 1) = (kp : Int) by
            rw [Int.tmod_eq_emod_of_nonneg hcut, hkp, Int.natCast_emod, Int.toNat_of_nonneg hcut]
            congr 1
            omega)
          rw [← hkp] at hcd hmod
          have HCD := Lib.hid hcd
          clear hkp hcd
          have q0 : (((l0.length : Int) - (s0 : Int) + 1) == 0) = false := by rw [beq_eq_false_iff_ne]; omega
          have qw : IntKind.i64.wrap ((l0.length : Int) - (s0 : Int) + 1) = (l0.length : Int) - (s0 : Int) + 1 := IntWalk.i64_in _ (by omega)
          have qw0 : IntKind.i64.wrap ((l0.length : Int) - (s0 : Int)) = (l0.length : Int) - (s0 : Int) := IntWalk.i64_in _ (by omega)
          have qk : IntKind.i64.wrap (kp : Int) = (kp : Int) := IntWalk.i64_in _ (by omega)
          have qs : IntKind.i64.wrap ((s0 : Int) + (kp : Int)) = (s0 : Int) + (kp : Int) := IntWalk.i64_in _ (by omega)
          go_upto_region 12 with (fail)
          have qm := QM.out
          go_quiet (fail)
          have HBn := below_drewN (Below.refl wr.heap.size wr) nq
          have hwn : (wr.drewN nq).heap.size = wr.heap.size := rfl
          generalize wr.drewN nq = wn at HBn hwn ⊢
          clear qm q0 qw qw0 qk
          try simp only [Exit.then]
          try go_simp
          go_upto_region 13 with (fail)
          obtain ⟨at0, hat0⟩ : ∃ x : Nat, (x : Int) = (s0 : Int) + (kp : Int) := ⟨s0 + kp, by omega⟩
          have hatL : at0 ≤ l0.length := by omega
          have HAT := Lib.hid (show cutAt M.cut (M.fs q1.2) = at0 by have h1 := HCD.out; omega)
          try simp only [← hat0]
          have hxn : Blk wn fb 70 _ := (FB.out.ext (hBr.trans (HBn.mono hBr.size)))
          have hrn := own_ext ho HBn
          have qc := cutw_hB hbT Af l0.length cf (kh := .i64) (hi' := (at0 : Nat)) (hi := at0) rfl (by omega)
          obtain ⟨Ao, co, rfl⟩ := row_slC ho
          obtain ⟨vo, hvo⟩ : ∃ x, x = Value.slice Ao j co := ⟨_, rfl⟩
          rw [← hvo] at hrn ho how ⊢
          have HVS := Lib.hid hvo
          clear hvo
          have HVO := Lib.hid (fun b (e : vo.ownBlock = some b) => (ho.lt b e).2)
          obtain ⟨q, hq⟩ : ∃ q, q = wr.heap.size := ⟨_, rfl⟩
          rw [← hq] at HVO hwn
          have hq0 : q ≤ wn.drew.heap.size := by rw [← hwn]; exact Nat.le_refl _
          obtain ⟨B, hBx⟩ : ∃ B, B = wc.heap.size := ⟨_, rfl⟩
          have HWQ := Lib.hid (show B ≤ q by rw [hBx, hq]; exact hBr.size)
          have HBW := Lib.hid (fun (w' : World) (hb : wn.drew.grownBy w' vo.ownBlock) => show Below wc.heap.size wc w' from (hBr.trans (HBn.mono hBr.size)).trans (grown_low (show wn.grownBy w' vo.ownBlock from ⟨hb.os, hb.tape, hb.output, hb.size, hb.block⟩) (fun x e => (ho.lt x e).1) (by have := hBr.size; omega)))
          have HCN := Lib.hid (fun (w' : World) (hb : wn.drew.grownBy w' vo.ownBlock) => cell_ext (HBW.out _ hb) hcn)
          have HFB := Lib.hid (fun (w' : World) (hb : wn.drew.grownBy w' vo.ownBlock) => FB.out.ext (HBW.out _ hb))
          obtain ⟨l', hl'⟩ : ∃ x, x = l0.take at0 := ⟨_, rfl⟩
          have HRD := Lib.hid (fun (w' : World) (hb : wn.drew.grownBy w' vo.ownBlock) => show Rd w' Af (bv l') from by rw [hl', ← bv_take]; exact ((Rd.own FR.out).ext (HBW.out _ hb)).take at0)
          have HL1 := Lib.hid (show (bv l').length = at0 * 1 by rw [hl', bv_length, List.length_take, Nat.mul_one]; omega)
          have HLL := Lib.hid (show l'.length = at0 by rw [hl', List.length_take]; omega)
          have HLP := Lib.hid hl'
          have HQ := Lib.hid hq
          rw [← hBx] at hrn ho
          have HO2 := Lib.hid ho
          have HBX := Lib.hid hBx
          have HBR := Lib.hid hBr
          have HHOW := Lib.hid how
          have HHF := Lib.hid hf
          have HBN := Lib.hid HBn
          have HAT0 := Lib.hid hat0
          have hcoN : (j : Nat) ≤ 1000000 := by omega
          clear hl' hq hBx hcn ho hBr how hf HBn hat0 hxn
          refine wp_region_late 19 1 (by kernel_rfl) (by kernel_rfl) (by kernel_rfl) (fun w w' => w.grownBy w' vo.ownBlock) (fun _ => World.grownBy.refl _ _) (fun _ _ _ h k => h.trans k) (SCr q j at0 ad Pn c vo q1.1 fb Af l0.length cf l') (SCr_stays _ _ _ _ _ _ _ _ _ _ _ _ _ HVO.out) (JCr q B at0 j vo (erow φ' ((left M).take j)) q1.1 l') ⟨fun _ => hrn, fun e => (by cases e), fun e => (by cases e), hq0⟩ ?_ ?_
          · simp only [PhStep]
            refine ⟨?_, ?_, ?_, ?_, ?_, ?_, ?_, ?_, ?_, ?_, ?_, ?_, ?_, ?_, ?_, ?_, ?_, ?_, ?_, ?_, trivial⟩
            · intro L V w' hb hj hl hdo hcl hd
              clear hdo hcl
              clear hd
              refine ⟨?_⟩
              simp only [fillX, ne_eq, Nat.reduceEqDiff, not_false_eq_true, not_true_eq_false, if_true, if_false]
              go_wp2
              exact ⟨⟨rfl, rfl, World.grownBy.refl _ _, rfl⟩, hj.far (by decide) (by decide)⟩
            · intro L V w' hb hj hl hdo hcl hd
              clear hdo hcl
              clear hd
              refine ⟨?_⟩
              simp only [fillX, ne_eq, Nat.reduceEqDiff, not_false_eq_true, not_true_eq_false, if_true, if_false]
              go_wp2
              exact ⟨⟨rfl, rfl, World.grownBy.refl _ _, rfl⟩, hj.far (by decide) (by decide)⟩
            · intro L V w' hb hj hl hdo hcl hd
              clear hdo hcl
              clear hd
              refine ⟨?_⟩
              simp only [fillX, ne_eq, Nat.reduceEqDiff, not_false_eq_true, not_true_eq_false, if_true, if_false]
              go_wp2
              exact ⟨⟨rfl, rfl, World.grownBy.refl _ _, rfl⟩, hj.far (by decide) (by decide)⟩
            · intro L V w' hb hj hl hdo hcl hd
              clear hdo hcl
              simp only [DepFacts, SCr, Region.binds, forall_const, and_true] at hd
              refine ⟨?_⟩
              simp only [fillX, ne_eq, Nat.reduceEqDiff, not_false_eq_true, not_true_eq_false, if_true, if_false, hd]
              clear hd
              go_wp2
              exact ⟨⟨rfl, rfl, World.grownBy.refl _ _, rfl⟩, hj.far (by decide) (by decide)⟩
            · intro L V w' hb hj hl hdo hcl hd
              clear hdo hcl
              simp only [DepFacts, SCr, Region.binds, forall_const, and_true] at hd
              refine ⟨?_⟩
              simp only [fillX, ne_eq, Nat.reduceEqDiff, not_false_eq_true, not_true_eq_false, if_true, if_false, hd]
              clear hd
              go_wp2
              exact ⟨⟨rfl, rfl, World.grownBy.refl _ _, rfl⟩, hj.far (by decide) (by decide)⟩
            · intro L V w' hb hj hl hdo hcl hd
              have hc1 := HCN.out _ hb
              clear hdo hcl
              simp only [DepFacts, SCr, Region.binds, forall_const, and_true] at hd
              refine ⟨?_⟩
              simp only [fillX, ne_eq, Nat.reduceEqDiff, not_false_eq_true, not_true_eq_false, if_true, if_false, hd]
              clear hd
              go_wp2
              exact ⟨⟨rfl, rfl, World.grownBy.refl _ _, rfl⟩, hj.far (by decide) (by decide)⟩
            · intro L V w' hb hj hl hdo hcl hd
              clear hdo hcl
              clear hd
              refine ⟨?_⟩
              simp only [fillX, ne_eq, Nat.reduceEqDiff, not_false_eq_true, not_true_eq_false, if_true, if_false]
              go_wp2
              exact ⟨⟨rfl, rfl, World.grownBy.refl _ _, rfl⟩, hj.far (by decide) (by decide)⟩
            · intro L V w' hb hj hl hdo hcl hd
              clear hdo hcl
              simp only [DepFacts, SCr, Region.binds, forall_const, and_true] at hd
              refine ⟨?_⟩
              simp only [fillX, ne_eq, Nat.reduceEqDiff, not_false_eq_true, not_true_eq_false, if_true, if_false, hd]
              clear hd
              go_wp2
              exact ⟨⟨rfl, rfl, World.grownBy.refl _ _, rfl⟩, hj.far (by decide) (by decide)⟩
            · intro L V w' hb hj hl hdo hcl hd
              clear hdo hcl
              simp only [DepFacts, SCr, Region.binds, forall_const, and_true] at hd
              refine ⟨?_⟩
              simp only [fillX, ne_eq, Nat.reduceEqDiff, not_false_eq_true, not_true_eq_false, if_true, if_false, hd]
              clear hd
              go_wp2
              exact ⟨⟨rfl, rfl, World.grownBy.refl _ _, rfl⟩, hj.far (by decide) (by decide)⟩
            · intro L V w' hb hj hl hdo hcl hd
              have y0 := (HFB.out _ hb).cellv (i := 0) rfl
              clear hdo hcl
              simp only [DepFacts, SCr, Region.binds, forall_const, and_true] at hd
              refine ⟨?_⟩
              simp only [fillX, ne_eq, Nat.reduceEqDiff, not_false_eq_true, not_true_eq_false, if_true, if_false, hd]
              clear hd
              go_wp2
              exact ⟨⟨rfl, rfl, World.grownBy.refl _ _, rfl⟩, hj.far (by decide) (by decide)⟩
            · intro L V w' hb hj hl hdo hcl hd
              clear hdo hcl
              clear hd
              refine ⟨?_⟩
              simp only [fillX, ne_eq, Nat.reduceEqDiff, not_false_eq_true, not_true_eq_false, if_true, if_false]
              go_wp2
              exact ⟨⟨rfl, rfl, World.grownBy.refl _ _, rfl⟩, hj.far (by decide) (by decide)⟩
            · intro L V w' hb hj hl hdo hcl hd
              clear hdo hcl
              simp only [DepFacts, SCr, Region.binds, forall_const, and_true] at hd
              refine ⟨?_⟩
              simp only [fillX, ne_eq, Nat.reduceEqDiff, not_false_eq_true, not_true_eq_false, if_true, if_false, hd]
              clear hd
              go_wp2
              exact ⟨⟨rfl, rfl, World.grownBy.refl _ _, rfl⟩, hj.far (by decide) (by decide)⟩
            · intro L V w' hb hj hl hdo hcl hd
              have hrd := HRD.out _ hb
              have hq := hj.low
              clear hdo hcl
              simp only [DepFacts, SCr, Region.binds, forall_const, and_true] at hd
              refine ⟨?_⟩
              simp only [fillX, ne_eq, Nat.reduceEqDiff, not_false_eq_true, not_true_eq_false, if_true, if_false, hd]
              clear hd
              simp only [Act.put, List.setIfInBounds_toArray, List.set_cons_zero, List.set_cons_succ]
              go_wp2_with (first | (at_builtin; (refine wpList_append_rd _ rfl (.const (.slice none 0 0)) (.tmp 107) _ rfl q _ _ 1 1 hbT (.slice none 0 0) 0 [] rfl (World.ownsRow_nil _ _ _ _) Af at0 cf (bv l') rfl HL1.out hrd bv_one (by unfold maxLen; omega) (by omega) hq ?_; intro v3 w3 ho3 hg3 hat3; replace hg3 : World.grownBy w' w3 none := hg3)) | fail)
              rw [List.nil_append, Nat.zero_add] at ho3
              have hb3 : Below w'.heap.size w' w3 := ⟨hg3.os, hg3.tape, hg3.output, hg3.size, fun k hk => hg3.block k hk (by simp)⟩
              exact ⟨⟨rfl, rfl, ⟨hb3.os, hb3.tape, hb3.output, hb3.size, fun k hk _ => hb3.block k hk⟩, ho3⟩, (hj.ext hb3).far (by decide) (by decide)⟩
            · intro L V w' hb hj hl hdo hcl hd
              clear hdo hcl
              clear hd
              refine ⟨?_⟩
              simp only [fillX, ne_eq, Nat.reduceEqDiff, not_false_eq_true, not_true_eq_false, if_true, if_false]
              go_wp2
              exact ⟨⟨rfl, rfl, World.grownBy.refl _ _, rfl⟩, hj.far (by decide) (by decide)⟩
            · intro L V w' hb hj hl hdo hcl hd
              clear hdo hcl
              simp only [DepFacts, SCr, Region.binds, forall_const, and_true] at hd
              obtain ⟨d12, d13⟩ := hd
              obtain ⟨A6, c6, e6⟩ := row_slC d12
              rw [e6] at d12
              refine ⟨?_⟩
              simp only [fillX, ne_eq, Nat.reduceEqDiff, not_false_eq_true, not_true_eq_false, if_true, if_false, e6, d13]
              clear e6 d13
              go_wp2
              exact ⟨⟨rfl, rfl, World.grownBy.refl _ _, _, rfl, d12⟩, hj.far (by decide) (by decide)⟩
            · intro L V w' hb hj hl hdo hcl hd
              have hq := hj.low
              clear hdo hcl
              simp only [DepFacts, SCr, Region.binds, forall_const, and_true] at hd
              obtain ⟨u, e6, d14⟩ := hd
              refine ⟨?_⟩
              simp only [fillX, ne_eq, Nat.reduceEqDiff, not_false_eq_true, not_true_eq_false, if_true, if_false, e6]
              clear e6
              simp only [Act.put, List.setIfInBounds_toArray, List.set_cons_zero, List.set_cons_succ]
              go_wp2_with (first | ((with_reducible refine gd_box ?_); refine wpList_box_agg rfl _ (.tmp 110) rfl rfl ?_; intro w3 hx3 hb3 hl3) | fail)
              exact ⟨⟨rfl, rfl, ⟨hb3.os, hb3.tape, hb3.output, hb3.size, fun k hk _ => hb3.block k hk⟩, _, u, rfl, hq, hx3, own_ext d14 hb3, fun b hb e => by have := (d14.lt b hb).2; omega⟩, (hj.ext hb3).far (by decide) (by decide)⟩
            · intro L V w' hb hj hl hdo hcl hd
              clear hdo hcl
              simp only [DepFacts, SCr, Region.binds, forall_const, and_true] at hd
              obtain ⟨d5, g, u, e6, d15⟩ := hd
              refine ⟨?_⟩
              simp only [fillX, ne_eq, Nat.reduceEqDiff, not_false_eq_true, not_true_eq_false, if_true, if_false, d5, e6]
              clear d5 e6
              go_wp2
              exact ⟨⟨rfl, rfl, World.grownBy.refl _ _, g, u, rfl, d15⟩, hj.far (by decide) (by decide)⟩
            · intro L V w' hb hj hl hdo hcl hd
              have hq := hj.low
              clear hdo hcl
              simp only [DepFacts, SCr, Region.binds, forall_const, and_true] at hd
              obtain ⟨g, u, e6, d16⟩ := hd
              refine ⟨?_⟩
              simp only [fillX, ne_eq, Nat.reduceEqDiff, not_false_eq_true, not_true_eq_false, if_true, if_false, e6]
              clear e6
              simp only [Act.put, List.setIfInBounds_toArray, List.set_cons_zero, List.set_cons_succ]
              go_wp2_with (first | ((with_reducible refine gd_rowC ?_); refine wpList_row_one rfl (.tmp 112) rfl hTE (by decide) (cs := #[.string ⟨q1.1.toArray⟩, .pointer (some ⟨g, 0, none⟩)]) rfl rfl ?_; intro w3 hx3 hb3 hl3) | fail)
              exact ⟨⟨rfl, rfl, ⟨hb3.os, hb3.tape, hb3.output, hb3.size, fun k hk _ => hb3.block k hk⟩, _, g, u, rfl, hq, hx3, d16.ext hb3⟩, (hj.ext hb3).far (by decide) (by decide)⟩
            · intro L V w' hb hj hl hdo hcl hd
              have hr0 := hj.row0 hl
              have hq := hj.low
              have h19 : L 19 = false := Bool.eq_false_iff.2 fun e => by have := hcl 19 18 (by kernel_rfl) e; rw [this] at hl; cases hl
              clear hdo hcl
              simp only [DepFacts, SCr, Region.binds, forall_const, and_true] at hd
              obtain ⟨d0, ⟨hh, g, u, e6, _, hx6, d17⟩, _⟩ := hd
              refine ⟨?_⟩
              simp only [fillX, ne_eq, Nat.reduceEqDiff, not_false_eq_true, not_true_eq_false, if_true, if_false, d0, e6]
              clear d0 e6
              simp only [Act.put, List.setIfInBounds_toArray, List.set_cons_zero, List.set_cons_succ]
              go_wp2_with (first | (at_builtin; refine wpList_append_rd _ rfl (.tmp 96) (.tmp 113) _ rfl B _ _ 2 24 hTE _ _ _ rfl hr0 (some ⟨hh, 0, none⟩) 1 1 [.string ⟨q1.1.toArray⟩, .pointer (some ⟨g, 0, none⟩)] rfl rfl hx6.rd (by intro u hu; simp only [List.mem_cons, List.not_mem_nil, or_false] at hu; rcases hu with rfl | rfl <;> rfl) (by unfold maxLen; omega) (by omega) (Nat.le_trans HWQ.out hq) ?_; intro v3 w3 ho3 hg3 hat3) | fail)
              exact ⟨⟨rfl, rfl, hg3, trivial⟩, hj.app h19 ho3 hg3 hat3 HVO.out d17⟩
            · intro L V w' hb hj hl hdo hcl hd
              have h18 : L 18 = true := hdo 18 (by kernel_rfl)
              clear hdo hcl hd
              refine ⟨?_⟩
              simp only [fillX, ne_eq, Nat.reduceEqDiff, not_false_eq_true, not_true_eq_false, if_true, if_false]
              go_wp2
              exact ⟨⟨rfl, rfl, World.grownBy.refl _ _, trivial⟩, hj.asn h18⟩
          · intro Lx V w3 hL hb3 hs hj3
            obtain ⟨g, u, hn, h3, hat3, hne⟩ := hj3.row1 (hL 18 (by decide))
            have e19 := hj3.row2 (hL 19 (by decide))
            clear hs hj3 hL
            simp only [fill, e19]
            have B3 := HBW.out _ hb3
            obtain ⟨vx, hvx⟩ : ∃ x, x = V 18 := ⟨_, rfl⟩
            rw [← hvx] at h3 hat3 hne ⊢
            clear hvx e19
            try simp only [Exit.then]
            try go_simp
            have hg3 : wr.grownBy w3 vo.ownBlock := grown_via HBN.out (show wn.grownBy w3 vo.ownBlock from ⟨hb3.os, hb3.tape, hb3.output, hb3.size, hb3.block⟩)
            rw [HQ.out] at hn hat3
            obtain ⟨φ2, o2, r1, r2, r3, r4, r5⟩ := crash_round (B := B) (by rw [HBX.out]; exact hB1.size) HRL.out HON.out HQ1.out HO2.out HHOW.out HHF.out HT.out HOI.out hg3 hn h3 hat3 hne (show (cutF M.cut (M.fs q1.2)).s = at0 from HAT.out) (show (cutF M.cut (M.fs q1.2)).b = l' by show (M.fs q1.2).b.take (cutAt M.cut (M.fs q1.2)) = l'; rw [HAT.out, EL.out, HLP.out]) HLL.out
            rw [HBX.out] at r1
            go_wp2
            go_roundw
            case rel => exact ⟨j + 1, φ2, o2, by omega, by go_num, r1, r2, r3, r4, r5, B3⟩
            case measure => simp [RowKit.intOf]; omega
        · have g1 : decide (0 ≤ M.cut) = false := decide_eq_false hcut
          have hcd := HCD.out
          rw [if_neg hcut] at hcd
          have HCD := Lib.hid hcd
          clear hcd
          have HBn : Below wr.heap.size wr wr := Below.refl wr.heap.size wr
          have hwn : wr.heap.size = wr.heap.size := rfl
          go_upto_region 13 with (fail)
          obtain ⟨wn, hwx⟩ : ∃ x, x = wr := ⟨_, rfl⟩
          have HBn : Below wr.heap.size wr wn := by rw [hwx]; exact Below.refl _ _
          have hwn : wn.heap.size = wr.heap.size := by rw [hwx]
          rw [← hwx]
          clear hwx
          obtain ⟨at0, hat0⟩ : ∃ x : Nat, (x : Int) = (s0 : Int) := ⟨s0, by omega⟩
          have hatL : at0 ≤ l0.length := by omega
          have HAT := Lib.hid (show cutAt M.cut (M.fs q1.2) = at0 by have h1 := HCD.out; omega)
          try simp only [← hat0]
          have hxn : Blk wn fb 70 _ := (FB.out.ext (hBr.trans (HBn.mono hBr.size)))
          have hrn := own_ext ho HBn
          have qc := cutw_hB hbT Af l0.length cf (kh := .i64) (hi' := (at0 : Nat)) (hi := at0) rfl (by omega)
          obtain ⟨Ao, co, rfl⟩ := row_slC ho
          obtain ⟨vo, hvo⟩ : ∃ x, x = Value.slice Ao j co := ⟨_, rfl⟩
          rw [← hvo] at hrn ho how ⊢
          have HVS := Lib.hid hvo
          clear hvo
          have HVO := Lib.hid (fun b (e : vo.ownBlock = some b) => (ho.lt b e).2)
          obtain ⟨q, hq⟩ : ∃ q, q = wr.heap.size := ⟨_, rfl⟩
          rw [← hq] at HVO hwn
          have hq0 : q ≤ wn.drew.heap.size := by rw [← hwn]; exact Nat.le_refl _
          obtain ⟨B, hBx⟩ : ∃ B, B = wc.heap.size := ⟨_, rfl⟩
          have HWQ := Lib.hid (show B ≤ q by rw [hBx, hq]; exact hBr.size)
          have HBW := Lib.hid (fun (w' : World) (hb : wn.drew.grownBy w' vo.ownBlock) => show Below wc.heap.size wc w' from (hBr.trans (HBn.mono hBr.size)).trans (grown_low (show wn.grownBy w' vo.ownBlock from ⟨hb.os, hb.tape, hb.output, hb.size, hb.block⟩) (fun x e => (ho.lt x e).1) (by have := hBr.size; omega)))
          have HCN := Lib.hid (fun (w' : World) (hb : wn.drew.grownBy w' vo.ownBlock) => cell_ext (HBW.out _ hb) hcn)
          have HFB := Lib.hid (fun (w' : World) (hb : wn.drew.grownBy w' vo.ownBlock) => FB.out.ext (HBW.out _ hb))
          obtain ⟨l', hl'⟩ : ∃ x, x = l0.take at0 := ⟨_, rfl⟩
          have HRD := Lib.hid (fun (w' : World) (hb : wn.drew.grownBy w' vo.ownBlock) => show Rd w' Af (bv l') from by rw [hl', ← bv_take]; exact ((Rd.own FR.out).ext (HBW.out _ hb)).take at0)
          have HL1 := Lib.hid (show (bv l').length = at0 * 1 by rw [hl', bv_length, List.length_take, Nat.mul_one]; omega)
          have HLL := Lib.hid (show l'.length = at0 by rw [hl', List.length_take]; omega)
          have HLP := Lib.hid hl'
          have HQ := Lib.hid hq
          rw [← hBx] at hrn ho
          have HO2 := Lib.hid ho
          have HBX := Lib.hid hBx
          have HBR := Lib.hid hBr
          have HHOW := Lib.hid how
          have HHF := Lib.hid hf
          have HBN := Lib.hid HBn
          have HAT0 := Lib.hid hat0
          have hcoN : (j : Nat) ≤ 1000000 := by omega
          clear hl' hq hBx hcn ho hBr how hf HBn hat0 hxn
          refine wp_region_late 19 1 (by kernel_rfl) (by kernel_rfl) (by kernel_rfl) (fun w w' => w.grownBy w' vo.ownBlock) (fun _ => World.grownBy.refl _ _) (fun _ _ _ h k => h.trans k) (SCr q j at0 ad Pn c vo q1.1 fb Af l0.length cf l') (SCr_stays _ _ _ _ _ _ _ _ _ _ _ _ _ HVO.out) (JCr q B at0 j vo (erow φ' ((left M).take j)) q1.1 l') ⟨fun _ => hrn, fun e => (by cases e), fun e => (by cases e), hq0⟩ ?_ ?_
          · simp only [PhStep]
            refine ⟨?_, ?_, ?_, ?_, ?_, ?_, ?_, ?_, ?_, ?_, ?_, ?_, ?_, ?_, ?_, ?_, ?_, ?_, ?_, ?_, trivial⟩
            · intro L V w' hb hj hl hdo hcl hd
              clear hdo hcl
              clear hd
              refine ⟨?_⟩
              simp only [fillX, ne_eq, Nat.reduceEqDiff, not_false_eq_true, not_true_eq_false, if_true, if_false]
              go_wp2
              exact ⟨⟨rfl, rfl, World.grownBy.refl _ _, rfl⟩, hj.far (by decide) (by decide)⟩
            · intro L V w' hb hj hl hdo hcl hd
              clear hdo hcl
              clear hd
              refine ⟨?_⟩
              simp only [fillX, ne_eq, Nat.reduceEqDiff, not_false_eq_true, not_true_eq_false, if_true, if_false]
              go_wp2
              exact ⟨⟨rfl, rfl, World.grownBy.refl _ _, rfl⟩, hj.far (by decide) (by decide)⟩
            · intro L V w' hb hj hl hdo hcl hd
              clear hdo hcl
              clear hd
              refine ⟨?_⟩
              simp only [fillX, ne_eq, Nat.reduceEqDiff, not_false_eq_true, not_true_eq_false, if_true, if_false]
              go_wp2
              exact ⟨⟨rfl, rfl, World.grownBy.refl _ _, rfl⟩, hj.far (by decide) (by decide)⟩
            · intro L V w' hb hj hl hdo hcl hd
              clear hdo hcl
              simp only [DepFacts, SCr, Region.binds, forall_const, and_true] at hd
              refine ⟨?_⟩
              simp only [fillX, ne_eq, Nat.reduceEqDiff, not_false_eq_true, not_true_eq_false, if_true, if_false, hd]
              clear hd
              go_wp2
              exact ⟨⟨rfl, rfl, World.grownBy.refl _ _, rfl⟩, hj.far (by decide) (by decide)⟩
            · intro L V w' hb hj hl hdo hcl hd
              clear hdo hcl
              simp only [DepFacts, SCr, Region.binds, forall_const, and_true] at hd
              refine ⟨?_⟩
              simp only [fillX, ne_eq, Nat.reduceEqDiff, not_false_eq_true, not_true_eq_false, if_true, if_false, hd]
              clear hd
              go_wp2
              exact ⟨⟨rfl, rfl, World.grownBy.refl _ _, rfl⟩, hj.far (by decide) (by decide)⟩
            · intro L V w' hb hj hl hdo hcl hd
              have hc1 := HCN.out _ hb
              clear hdo hcl
              simp only [DepFacts, SCr, Region.binds, forall_const, and_true] at hd
              refine ⟨?_⟩
              simp only [fillX, ne_eq, Nat.reduceEqDiff, not_false_eq_true, not_true_eq_false, if_true, if_false, hd]
              clear hd
              go_wp2
              exact ⟨⟨rfl, rfl, World.grownBy.refl _ _, rfl⟩, hj.far (by decide) (by decide)⟩
            · intro L V w' hb hj hl hdo hcl hd
              clear hdo hcl
              clear hd
              refine ⟨?_⟩
              simp only [fillX, ne_eq, Nat.reduceEqDiff, not_false_eq_true, not_true_eq_false, if_true, if_false]
              go_wp2
              exact ⟨⟨rfl, rfl, World.grownBy.refl _ _, rfl⟩, hj.far (by decide) (by decide)⟩
            · intro L V w' hb hj hl hdo hcl hd
              clear hdo hcl
              simp only [DepFacts, SCr, Region.binds, forall_const, and_true] at hd
              refine ⟨?_⟩
              simp only [fillX, ne_eq, Nat.reduceEqDiff, not_false_eq_true, not_true_eq_false, if_true, if_false, hd]
              clear hd
              go_wp2
              exact ⟨⟨rfl, rfl, World.grownBy.refl _ _, rfl⟩, hj.far (by decide) (by decide)⟩
            · intro L V w' hb hj hl hdo hcl hd
              clear hdo hcl
              simp only [DepFacts, SCr, Region.binds, forall_const, and_true] at hd
              refine ⟨?_⟩
              simp only [fillX, ne_eq, Nat.reduceEqDiff, not_false_eq_true, not_true_eq_false, if_true, if_false, hd]
              clear hd
              go_wp2
              exact ⟨⟨rfl, rfl, World.grownBy.refl _ _, rfl⟩, hj.far (by decide) (by decide)⟩
            · intro L V w' hb hj hl hdo hcl hd
              have y0 := (HFB.out _ hb).cellv (i := 0) rfl
              clear hdo hcl
              simp only [DepFacts, SCr, Region.binds, forall_const, and_true] at hd
              refine ⟨?_⟩
              simp only [fillX, ne_eq, Nat.reduceEqDiff, not_false_eq_true, not_true_eq_false, if_true, if_false, hd]
              clear hd
              go_wp2
              exact ⟨⟨rfl, rfl, World.grownBy.refl _ _, rfl⟩, hj.far (by decide) (by decide)⟩
            · intro L V w' hb hj hl hdo hcl hd
              clear hdo hcl
              clear hd
              refine ⟨?_⟩
              simp only [fillX, ne_eq, Nat.reduceEqDiff, not_false_eq_true, not_true_eq_false, if_true, if_false]
              go_wp2
              exact ⟨⟨rfl, rfl, World.grownBy.refl _ _, rfl⟩, hj.far (by decide) (by decide)⟩
            · intro L V w' hb hj hl hdo hcl hd
              clear hdo hcl
              simp only [DepFacts, SCr, Region.binds, forall_const, and_true] at hd
              refine ⟨?_⟩
              simp only [fillX, ne_eq, Nat.reduceEqDiff, not_false_eq_true, not_true_eq_false, if_true, if_false, hd]
              clear hd
              go_wp2
              exact ⟨⟨rfl, rfl, World.grownBy.refl _ _, rfl⟩, hj.far (by decide) (by decide)⟩
            · intro L V w' hb hj hl hdo hcl hd
              have hrd := HRD.out _ hb
              have hq := hj.low
              clear hdo hcl
              simp only [DepFacts, SCr, Region.binds, forall_const, and_true] at hd
              refine ⟨?_⟩
              simp only [fillX, ne_eq, Nat.reduceEqDiff, not_false_eq_true, not_true_eq_false, if_true, if_false, hd]
              clear hd
              simp only [Act.put, List.setIfInBounds_toArray, List.set_cons_zero, List.set_cons_succ]
              go_wp2_with (first | (at_builtin; (refine wpList_append_rd _ rfl (.const (.slice none 0 0)) (.tmp 107) _ rfl q _ _ 1 1 hbT (.slice none 0 0) 0 [] rfl (World.ownsRow_nil _ _ _ _) Af at0 cf (bv l') rfl HL1.out hrd bv_one (by unfold maxLen; omega) (by omega) hq ?_; intro v3 w3 ho3 hg3 hat3; replace hg3 : World.grownBy w' w3 none := hg3)) | fail)
              rw [List.nil_append, Nat.zero_add] at ho3
              have hb3 : Below w'.heap.size w' w3 := ⟨hg3.os, hg3.tape, hg3.output, hg3.size, fun k hk => hg3.block k hk (by simp)⟩
              exact ⟨⟨rfl, rfl, ⟨hb3.os, hb3.tape, hb3.output, hb3.size, fun k hk _ => hb3.block k hk⟩, ho3⟩, (hj.ext hb3).far (by decide) (by decide)⟩
            · intro L V w' hb hj hl hdo hcl hd
              clear hdo hcl
              clear hd
              refine ⟨?_⟩
              simp only [fillX, ne_eq, Nat.reduceEqDiff, not_false_eq_true, not_true_eq_false, if_true, if_false]
              go_wp2
              exact ⟨⟨rfl, rfl, World.grownBy.refl _ _, rfl⟩, hj.far (by decide) (by decide)⟩
            · intro L V w' hb hj hl hdo hcl hd
              clear hdo hcl
              simp only [DepFacts, SCr, Region.binds, forall_const, and_true] at hd
              obtain ⟨d12, d13⟩ := hd
              obtain ⟨A6, c6, e6⟩ := row_slC d12
              rw [e6] at d12
              refine ⟨?_⟩
              simp only [fillX, ne_eq, Nat.reduceEqDiff, not_false_eq_true, not_true_eq_false, if_true, if_false, e6, d13]
              clear e6 d13
              go_wp2
              exact ⟨⟨rfl, rfl, World.grownBy.refl _ _, _, rfl, d12⟩, hj.far (by decide) (by decide)⟩
            · intro L V w' hb hj hl hdo hcl hd
              have hq := hj.low
              clear hdo hcl
              simp only [DepFacts, SCr, Region.binds, forall_const, and_true] at hd
              obtain ⟨u, e6, d14⟩ := hd
              refine ⟨?_⟩
              simp only [fillX, ne_eq, Nat.reduceEqDiff, not_false_eq_true, not_true_eq_false, if_true, if_false, e6]
              clear e6
              simp only [Act.put, List.setIfInBounds_toArray, List.set_cons_zero, List.set_cons_succ]
              go_wp2_with (first | ((with_reducible refine gd_box ?_); refine wpList_box_agg rfl _ (.tmp 110) rfl rfl ?_; intro w3 hx3 hb3 hl3) | fail)
              exact ⟨⟨rfl, rfl, ⟨hb3.os, hb3.tape, hb3.output, hb3.size, fun k hk _ => hb3.block k hk⟩, _, u, rfl, hq, hx3, own_ext d14 hb3, fun b hb e => by have := (d14.lt b hb).2; omega⟩, (hj.ext hb3).far (by decide) (by decide)⟩
            · intro L V w' hb hj hl hdo hcl hd
              clear hdo hcl
              simp only [DepFacts, SCr, Region.binds, forall_const, and_true] at hd
              obtain ⟨d5, g, u, e6, d15⟩ := hd
              refine ⟨?_⟩
              simp only [fillX, ne_eq, Nat.reduceEqDiff, not_false_eq_true, not_true_eq_false, if_true, if_false, d5, e6]
              clear d5 e6
              go_wp2
              exact ⟨⟨rfl, rfl, World.grownBy.refl _ _, g, u, rfl, d15⟩, hj.far (by decide) (by decide)⟩
            · intro L V w' hb hj hl hdo hcl hd
              have hq := hj.low
              clear hdo hcl
              simp only [DepFacts, SCr, Region.binds, forall_const, and_true] at hd
              obtain ⟨g, u, e6, d16⟩ := hd
              refine ⟨?_⟩
              simp only [fillX, ne_eq, Nat.reduceEqDiff, not_false_eq_true, not_true_eq_false, if_true, if_false, e6]
              clear e6
              simp only [Act.put, List.setIfInBounds_toArray, List.set_cons_zero, List.set_cons_succ]
              go_wp2_with (first | ((with_reducible refine gd_rowC ?_); refine wpList_row_one rfl (.tmp 112) rfl hTE (by decide) (cs := #[.string ⟨q1.1.toArray⟩, .pointer (some ⟨g, 0, none⟩)]) rfl rfl ?_; intro w3 hx3 hb3 hl3) | fail)
              exact ⟨⟨rfl, rfl, ⟨hb3.os, hb3.tape, hb3.output, hb3.size, fun k hk _ => hb3.block k hk⟩, _, g, u, rfl, hq, hx3, d16.ext hb3⟩, (hj.ext hb3).far (by decide) (by decide)⟩
            · intro L V w' hb hj hl hdo hcl hd
              have hr0 := hj.row0 hl
              have hq := hj.low
              have h19 : L 19 = false := Bool.eq_false_iff.2 fun e => by have := hcl 19 18 (by kernel_rfl) e; rw [this] at hl; cases hl
              clear hdo hcl
              simp only [DepFacts, SCr, Region.binds, forall_const, and_true] at hd
              obtain ⟨d0, ⟨hh, g, u, e6, _, hx6, d17⟩, _⟩ := hd
              refine ⟨?_⟩
              simp only [fillX, ne_eq, Nat.reduceEqDiff, not_false_eq_true, not_true_eq_false, if_true, if_false, d0, e6]
              clear d0 e6
              simp only [Act.put, List.setIfInBounds_toArray, List.set_cons_zero, List.set_cons_succ]
              go_wp2_with (first | (at_builtin; refine wpList_append_rd _ rfl (.tmp 96) (.tmp 113) _ rfl B _ _ 2 24 hTE _ _ _ rfl hr0 (some ⟨hh, 0, none⟩) 1 1 [.string ⟨q1.1.toArray⟩, .pointer (some ⟨g, 0, none⟩)] rfl rfl hx6.rd (by intro u hu; simp only [List.mem_cons, List.not_mem_nil, or_false] at hu; rcases hu with rfl | rfl <;> rfl) (by unfold maxLen; omega) (by omega) (Nat.le_trans HWQ.out hq) ?_; intro v3 w3 ho3 hg3 hat3) | fail)
              exact ⟨⟨rfl, rfl, hg3, trivial⟩, hj.app h19 ho3 hg3 hat3 HVO.out d17⟩
            · intro L V w' hb hj hl hdo hcl hd
              have h18 : L 18 = true := hdo 18 (by kernel_rfl)
              clear hdo hcl hd
              refine ⟨?_⟩
              simp only [fillX, ne_eq, Nat.reduceEqDiff, not_false_eq_true, not_true_eq_false, if_true, if_false]
              go_wp2
              exact ⟨⟨rfl, rfl, World.grownBy.refl _ _, trivial⟩, hj.asn h18⟩
          · intro Lx V w3 hL hb3 hs hj3
            obtain ⟨g, u, hn, h3, hat3, hne⟩ := hj3.row1 (hL 18 (by decide))
            have e19 := hj3.row2 (hL 19 (by decide))
            clear hs hj3 hL
            simp only [fill, e19]
            have B3 := HBW.out _ hb3
            obtain ⟨vx, hvx⟩ : ∃ x, x = V 18 := ⟨_, rfl⟩
            rw [← hvx] at h3 hat3 hne ⊢
            clear hvx e19
            try simp only [Exit.then]
            try go_simp
            have hg3 : wr.grownBy w3 vo.ownBlock := grown_via HBN.out (show wn.grownBy w3 vo.ownBlock from ⟨hb3.os, hb3.tape, hb3.output, hb3.size, hb3.block⟩)
            rw [HQ.out] at hn hat3
            obtain ⟨φ2, o2, r1, r2, r3, r4, r5⟩ := crash_round (B := B) (by rw [HBX.out]; exact hB1.size) HRL.out HON.out HQ1.out HO2.out HHOW.out HHF.out HT.out HOI.out hg3 hn h3 hat3 hne (show (cutF M.cut (M.fs q1.2)).s = at0 from HAT.out) (show (cutF M.cut (M.fs q1.2)).b = l' by show (M.fs q1.2).b.take (cutAt M.cut (M.fs q1.2)) = l'; rw [HAT.out, EL.out, HLP.out]) HLL.out
            rw [HBX.out] at r1
            go_wp2
            go_roundw
            case rel => exact ⟨j + 1, φ2, o2, by omega, by go_num, r1, r2, r3, r4, r5, B3⟩
            case measure => simp [RowKit.intOf]; omega
      · obtain rfl : j = Pn := by omega
        have f1 : decide ((j : Int) < (j : Int)) = false := decide_eq_false (by omega)
        rw [HN0.out] at ho hf
        obtain ⟨Ao, co, rfl⟩ := row_slC ho
        go_wp2_with (first
          | ((with_reducible refine gd_store ?_); refine wpList_store_cell rfl 32 (.tmp 118) (.tmp 116) rfl (i := 0) (v := .slice Ao j co) hxr (show 0 < 10 by decide) (by kernel_rfl) rfl rfl rfl ?_; intro w1 hx1 hg1)
          | ((with_reducible refine gd_store ?_); refine wpList_store_cell rfl 32 (.tmp 122) (.tmp 120) rfl (i := 1) (v := .slice Ao j co) hx1 (show 1 < 10 by decide) (by kernel_rfl) rfl rfl rfl ?_; intro w2 hx2 hg2)
          | ((with_reducible refine gd_store ?_); refine wpList_store_cell rfl 33 (.tmp 125) (.const (.slice none 0 0)) rfl (i := 2) (v := .slice none 0 0) hx2 (show 2 < 10 by decide) (by kernel_rfl) rfl rfl rfl ?_; intro w3 hx3 hg3)
          | ((with_reducible refine gd_store ?_); refine wpList_store_cell rfl 4 (.tmp 128) (.const (.bool false)) rfl (i := 3) (v := .bool false) hx3 (show 3 < 10 by decide) (by kernel_rfl) rfl rfl rfl ?_; intro w4 hx4 hg4)
          | ((with_reducible refine gd_store ?_); refine wpList_store_cell rfl 4 (.tmp 131) (.const (.bool true)) rfl (i := 8) (v := .bool true) hx4 (show 8 < 10 by decide) (by kernel_rfl) rfl rfl rfl ?_; intro w5 hx5 hg5)
          | fail)
        go_end0
        have hg15 := (((hg1.trans hg2).trans hg3).trans hg4).trans hg5
        have hop' : o' p = some (k, .fs) := by rw [HT.out.old p (HR.out.own.lt H.out.op)]; exact H.out.op
        have st : ∀ {b t}, o' b = some (k, t) → t ≠ .fs → w5.heap[b]? = wr.heap[b]? := fun {b t} e n1 => same_of hg15 (HOI.out.lt e) e (one_some hop') n1
        have hr5 := own_base (own_same ho fun g hg => st (how g hg) (by simp)) (Nat.zero_le _)
        have HN2 := HPN.out
        have hTT : Turn k o o' w w5 := HT.out.wrote2 hg15 H.out.op
        have hRel : RelR k p (crashM M) φ' o' K L w5 := by
          refine ⟨HR.out.fine.crash, HOI.out.more hg15.size, ⟨_, _, _, _, false, _, _, _, ⟨hx5, hop', ?_, how, ?_, how, World.ownsRow_nil _ _ _ _, (fun g h => by cases h), rfl, fun h0 => absurd (show (0 : Int) ≤ -1 from h0) (by decide)⟩⟩, fun i hi => ?_, HR.out.ops, ⟨by show (-9223372036854775808 : Int) ≤ 0; decide, by show (0 : Int) ≤ _; decide⟩, by show (-1 : Int) ≤ _; decide, by show (left M).length + 0 ≤ K; omega⟩
          · show w5.ownsRow 0 _ 2 _ (left M).length (erow φ' (left M))
            rw [← HPN.out]; exact hr5
          · show w5.ownsRow 0 _ 2 _ (left M).length (erow φ' (left M))
            rw [← HPN.out]; exact hr5
          · have hid : hasId (left M) i := by
              rcases hi with h | h | ⟨n, h⟩
              · exact h
              · exact h
              · exact absurd h List.not_mem_nil
            obtain ⟨q, hqm, rfl⟩ := hid
            have e3 : (crashM M).fs q.2 = cutF M.cut (M.fs q.2) := if_pos ⟨q, hqm, rfl⟩
            rw [e3]
            refine ⟨(hf q hqm).mono (fun e ht => st e (by rcases ht with rfl | rfl <;> simp)) id, ?_⟩
            show ((M.fs q.2).b.take _).length ≤ L
            rw [List.length_take]
            have := (HR.out.file q.2 (left_live HR.out.fine ⟨q, hqm, rfl⟩)).2
            omega
        first | exact ⟨rfl, o', φ', hRel, hTT⟩ | exact ⟨rfl, o', ⟨φ', hRel⟩, hTT⟩
set_option maxRecDepth 100000 in
set_option maxHeartbeats 1000000 in
theorem op_off {k p : Nat} {M : FSs} {φ : Nat → Nat} {o : Own} {K L : Nat} {w : World} (h : RelR k p M φ o K L w) (hop : M.op = 0) (hK : K ≤ 100000) (hL : L ≤ 1000000000) :
    Calls Try.prog 33 #[.pointer (some ⟨p, 0, none⟩)] w fun e w' => e = .returned (.bool (!failsB M)) ∧ ∃ o' φ', RelR k p (failsM M) φ' o' (K + 1) L w' ∧ Turn k o o' w w' := by
  have CC := Lib.hid (crash_any h hop hK hL)
  obtain ⟨vn, vs, vw, vk, pl, c0, c1, lf, hh⟩ := h.head
  obtain ⟨hlf, _⟩ := hh.left (by omega)
  have hx := hh.blk
  have hpl : pl = true := by rw [hh.plan, hop]; rfl
  subst hpl hlf
  rw [hop] at hx
  have y3 := hx.cellv (i := 3) rfl
  have y7 := hx.cellv (i := 7) rfl
  rw [failsB_yes hop]
  have HF := Lib.hid (show failsM M = crashM M from if_pos hop)
  clear hh h hop
  go_enter Try.func33, Try.ntmps33
  go_wp2_with (first
    | (go_at_call 46; (with_reducible refine CC.out.mono ?_); rintro e w1 ⟨rfl, o1, φ1, h1, T1⟩)
    | fail)
  go_ret
  rw [HF.out]
  exact ⟨rfl, o1, φ1, h1.more (by omega) (Nat.le_refl _), T1⟩
theorem OpAny.any {k p : Nat} {M : FSs} {φ : Nat → Nat} {o : Own} {K L : Nat} {w : World} (h : RelR k p M φ o K L w) (hK : K ≤ 100000) (hL : L ≤ 1000000000) : OpAny k p M o K L w := fun w1 hb => by
  by_cases hop : M.op = 0
  · exact op_off (h.ext hb) hop hK hL
  · exact op_go (h.ext hb) hop (by omega)
end Go.Mun
