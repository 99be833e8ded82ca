/- KV.Write, KV.Compact. -/
import Derived.Test.YthjnebngdcdicaaKvKeep
namespace Go.Mun
open Go Go.RowKit Go.Proofs Go.Maps

theorem own_somes {w : World} {base size n c : Nat} {e : TypeId} {A : Option Addr} {xs : List Value} (h : w.ownsRow base e size (.slice A n c) n xs) (hn : 0 < n) : ∃ ad, A = some ad := by
  rcases h.2 with ⟨_, rfl⟩ | ⟨g, cap, cur, e1, _⟩
  · exact absurd hn (Nat.lt_irrefl _)
  · injection e1 with e1
    exact ⟨_, e1⟩
/-- what the disk holds -/
structure LogSt (M : FSs) (S : PLB) (clean : Bool) (n B : Nat) : Prop where
  ex : ∃ there b, Rest M.dead M there b ∧ LogOk b S n ∧ b.length ≤ B ∧ (clean = true → there = true ∧ LogAll b S n)
theorem LogSt.mono {M : FSs} {S : PLB} {clean : Bool} {n n' B B' : Nat} (h : LogSt M S clean n B) (hn : n ≤ n') (hB : B ≤ B') : LogSt M S clean n' B' := by
  obtain ⟨t, b, h1, h2, h3, h4⟩ := h.ex
  exact ⟨t, b, h1, h2.mono hn, Nat.le_trans h3 hB, fun e => ⟨(h4 e).1, (h4 e).2.mono hn⟩⟩
theorem LogSt.start {M : FSs} {S : PLB} {clean : Bool} {n B : Nat} (h : LogSt M S clean n B) : LogSt (startM M) S clean n B := by
  obtain ⟨t, b, h1, h2, h3, h4⟩ := h.ex
  exact ⟨t, b, h1.start, h2, h3, h4⟩
theorem LogSt.plan {M : FSs} {S : PLB} {clean : Bool} {n B : Nat} (h : LogSt M S clean n B) (op cut : Int) (keep : List Bool) : LogSt (planM M op cut keep) S clean n B := by
  obtain ⟨t, b, h1, h2, h3, h4⟩ := h.ex
  exact ⟨t, b, h1.plan _ _ _, h2, h3, h4⟩
theorem LogSt.weak {M : FSs} {S : PLB} {clean : Bool} {n B : Nat} (h : LogSt M S clean n B) : LogSt M S false n B := by
  obtain ⟨t, b, h1, h2, h3, _⟩ := h.ex
  exact ⟨t, b, h1, h2, h3, fun e => by cases e⟩
theorem logSt_new : LogSt newM [] false 0 0 := ⟨false, [], rest_new, (LogAll.nil 0).ok, Nat.le_refl _, fun e => by cases e⟩
def WrOk (j k q p : Nat) (M : FSs) (S : PLB) (n B N : Nat) (o : Own) (K L : Nat) (w0 w w' : World) : Prop :=
  ∃ M' o1 o' w1, Turn k o o1 w w1 ∧ Turn j o1 o' w1 w' ∧ FsIn k p M' o' (K + 10) (L + B) w0 w' ∧ KvAt j q p S true false o' N w' ∧ OpOn M M' ∧ M'.dead = false ∧ LogSt M' S true (n + 1) B ∧ (getP M.now cAnew = none → getP M'.now cAnew = none)
def WrNo (j k q p : Nat) (M : FSs) (S S' : PLB) (clean : Bool) (n B N : Nat) (o : Own) (K L : Nat) (w0 w w' : World) : Prop :=
  ∃ M' o1 o' w1, Turn k o o1 w w1 ∧ Turn j o1 o' w1 w' ∧ FsIn k p M' o' (K + 10) (L + B) w0 w' ∧ KvAt j q p S clean true o' N w' ∧ M.op ≠ -1 ∧ M'.dead = true ∧ (LogSt M' S false (n + 1) B ∨ LogSt M' S' false (n + 1) B)
section
variable {j k p q N n B : Nat} {M : FSs} {o : Own} {K L : Nat} {w0 w w2 w' : World} {S S' : PLB} {b l : List UInt8} {N' : Nat} {clean there : Bool}
theorem wrOk_of {W : List UInt8} {X : Nat} (h : KeepOk j k q p M W S' N' o (K + 10) (L + X) w0 w2 w') (ho : OwnIn o w) (hb : Below w.heap.size w w2) (hX : X ≤ B) (hW : W.length ≤ B) (hA : LogAll W S' (n + 1)) : WrOk j k q p M S' n B N' o K L w0 w w' := by
  obtain ⟨M', o1, o', w1, h1, h2, h3, h4, h5, h6, h7⟩ := h
  refine ⟨M', o1, o', w1, (Turn.below ho hb).trans h1, h2, h3.more (Nat.le_refl _) (by omega), h4, h5, h6.dead, ⟨true, W, by rw [h6.dead]; exact h6, hA.ok, hW, fun _ => ⟨rfl, hA⟩⟩, h7⟩
theorem wrNo_of {P : Bool → List UInt8 → Prop} {X : Nat} (h : KeepNo j k q p M P S clean N o (K + 10) (L + X) w0 w2 w') (ho : OwnIn o w) (hb : Below w.heap.size w w2) (hX : X ≤ B) (hP : ∀ t b', P t b' → b'.length ≤ B ∧ (LogOk b' S (n + 1) ∨ LogOk b' S' (n + 1))) : WrNo j k q p M S S' clean n B N o K L w0 w w' := by
  obtain ⟨M', o1, o', w1, h1, h2, h3, h4, h5, t, b', h6, h7⟩ := h
  obtain ⟨g1, g2⟩ := hP t b' h7
  exact ⟨M', o1, o', w1, (Turn.below ho hb).trans h1, h2, h3.more (Nat.le_refl _) (by omega), h4, h5, h6.dead, g2.imp (fun g => ⟨t, b', by rw [h6.dead]; exact h6, g, g1, fun e => by cases e⟩) (fun g => ⟨t, b', by rw [h6.dead]; exact h6, g, g1, fun e => by cases e⟩)⟩
end
section
variable {j k p q N n B : Nat} {M : FSs} {o : Own} {K L : Nat} {w0 w : World} {S : PLB} {clean dead : Bool} {vl : Value} {l : List Rec}
set_option maxRecDepth 100000 in
set_option maxHeartbeats 4000000 in
/-- Write comes down to keep -/
theorem write_by {R : Ending → World → Prop} (h : KvAt j q p S clean dead o N w) (hown : OwnIn o w) (hl : SliceOf 3 rOp w vl l) (hw : WideL l) (hN : N ≤ 1000000)
    (hk : ∀ (w2 : World) (ad : Addr) (c bm : Nat), Below w.heap.size w w2 → w2.ownsRow w.heap.size 5 1 (.slice (some ad) (batchB l).length c) (batchB l).length (bv (batchB l)) → KvMap o w2 bm (doneP S l) (N + l.length) →
      Calls Try.prog 33 #[.pointer (some ⟨q, 0, none⟩), .slice (some ad) (batchB l).length c, .map (some bm)] w2 fun e w' => ∃ x, e = .returned (.int .i64 x) ∧ R (.returned (.int .i64 x)) w') :
    Calls Try.prog 12 #[.pointer (some ⟨q, 0, none⟩), vl] w fun e w' => R e w' := by
  have CB := Lib.hid (Batch_okW vl l w hl hw)
  have CW := Lib.hid (fun w1 (hb : Below w.heap.size w w1) => with_any (h.ext hb) (hown.more hb.size) vl l (hl.ext rOp_stays hb) hw hN)
  have HK := Lib.hid hk
  have hpos := batchB_posW l hw
  clear h hl hk hw
  go_enter Try.func12, Try.ntmps12
  go_wp2_with (first
    | (go_at_call 32; (with_reducible refine CB.out.mono ?_); rintro e w1 ⟨v1, rfl, ho1, hb1⟩; obtain ⟨A1, c1, rfl⟩ := row_slC ho1; obtain ⟨ad, rfl⟩ := own_somes ho1 hpos)
    | (go_at_call 34; (refine (CW.out _ hb1).mono ?_); rintro e w2 ⟨bm, rfl, hm2, hb2⟩)
    | (go_at_call 33; (refine (HK.out w2 ad c1 bm (below_step hb1 hb2) (own_ext ho1 hb2) hm2).mono ?_); rintro e w3 ⟨x, rfl, hr⟩)
    | fail)
  exact hr
set_option maxRecDepth 100000 in
set_option maxHeartbeats 4000000 in
theorem compact_by {R : Ending → World → Prop} (h : KvAt j q p S clean dead o N w)
    (hk : ∀ (bm : Nat), KvMap o w bm S N → Calls Try.prog 33 #[.pointer (some ⟨q, 0, none⟩), .slice none 0 0, .map (some bm)] w fun e w' => ∃ x, e = .returned (.int .i64 x) ∧ R (.returned (.int .i64 x)) w') :
    Calls Try.prog 16 #[.pointer (some ⟨q, 0, none⟩)] w fun e w' => R e w' := by
  obtain ⟨bm, hx, hm⟩ := headK_of h
  have HK := Lib.hid (hk bm hm)
  have y1 := hx.blk.cellv (i := 1) rfl
  clear h hk hx hm
  go_enter Try.func16, Try.ntmps16
  go_wp2_with (first
    | (go_at_call 33; (with_reducible refine HK.out.mono ?_); rintro e w3 ⟨x, rfl, hr⟩)
    | fail)
  exact hr
/-- while the power is off -/
theorem Write_off (h : KvAt j q p S clean dead o N w) (hf : FsIn k p M o K L w0 w) (hj : j ≠ k) (hd : dead = true ∨ M.dead = true) (hl : SliceOf 3 rOp w vl l) (hw : WideL l) (hN : N ≤ 1000000) :
    Calls Try.prog 12 #[.pointer (some ⟨q, 0, none⟩), vl] w fun e w' => e = .returned (.int .i64 8) ∧ KeepOff j k q p M S clean N o K L w0 w w' :=
  write_by h hf.own hl hw hN fun _ _ _ _ hb _ _ => (Keep_off (h.ext hb) (hf.ext hb) hj hd _ _).mono fun _ _ ⟨h1, h2, h3, h4⟩ => ⟨8, h1, rfl, (Turn.below hf.own hb).trans h2, h3, h4⟩
theorem Compact_off (h : KvAt j q p S clean dead o N w) (hf : FsIn k p M o K L w0 w) (hj : j ≠ k) (hd : dead = true ∨ M.dead = true) :
    Calls Try.prog 16 #[.pointer (some ⟨q, 0, none⟩)] w fun e w' => e = .returned (.int .i64 8) ∧ KeepOff j k q p M S clean N o K L w0 w w' :=
  compact_by h fun _ _ => (Keep_off h hf hj hd _ _).mono fun _ _ ⟨h1, h2⟩ => ⟨8, h1, rfl, h2⟩
theorem Write_on (h : KvAt j q p S clean false o N w) (hf : FsIn k p M o K L w0 w) (hj : j ≠ k) (hs : LogSt M S clean n B) (hd : M.dead = false) (hl : SliceOf 3 rOp w vl l) (hw : WideL l) (hS' : FitS (doneP S l)) (hN : N ≤ 1000000) (hK : K ≤ 100000000) (hL : L ≤ 500000000) (hn : 1 ≤ n) {B' : Nat} (hB1 : B + (batchB l).length ≤ B') (hB2 : (wholeB (doneP S l)).length ≤ B') :
    Calls Try.prog 12 #[.pointer (some ⟨q, 0, none⟩), vl] w fun e w' => (e = .returned (.int .i64 0) ∧ WrOk j k q p M (doneP S l) n B' (N + l.length) o K L w0 w w') ∨ (e = .returned (.int .i64 8) ∧ WrNo j k q p M S (doneP S l) clean n B' N o K L w0 w w') := by
  obtain ⟨there, b, hR, hLO, hbB, hcl⟩ := hs.ex
  rw [hd] at hR
  refine write_by h hf.own hl hw hN fun w2 ad c bm hb ho hm => ?_
  have hbb := batchB_bdW hw
  cases clean
  · refine (Keep_new (h.ext hb) (hf.ext hb) hj hR (.inl rfl) hm hS' hK hL).mono fun _ _ he => ?_
    rcases he with ⟨h1, h2⟩ | ⟨h1, h2⟩
    · exact ⟨0, h1, .inl ⟨rfl, wrOk_of h2 hf.own hb hB2 hB2 ((LogAll.whole hS').mono (by omega))⟩⟩
    · refine ⟨8, h1, .inr ⟨rfl, wrNo_of h2 hf.own hb hB2 fun t b' hP => ?_⟩⟩
      rcases hP with ⟨_, rfl⟩ | ⟨_, rfl⟩
      · exact ⟨by omega, .inl (hLO.mono (by omega))⟩
      · exact ⟨hB2, .inr ((LogAll.whole hS').ok.mono (by omega))⟩
  · obtain ⟨rfl, hA⟩ := hcl rfl
    have hfr : Free o k (.slice (some ad) (batchB l).length c) := (Lone.own hf.own (Nat.le_refl _) ho).free k
    refine (Keep_app (h.ext hb) (hf.ext hb) hj hR (Bytes.own ho) hfr (by omega) hm hS' hK hL).mono fun _ _ he => ?_
    rcases he with ⟨h1, h2⟩ | ⟨h1, h2⟩
    · exact ⟨0, h1, .inl ⟨rfl, wrOk_of h2 hf.own hb (by omega) (by rw [List.length_append]; omega) (hA.more hw)⟩⟩
    · refine ⟨8, h1, .inr ⟨rfl, wrNo_of h2 hf.own hb (by omega) fun t b' hP => ?_⟩⟩
      obtain ⟨_, cc, rfl⟩ := hP
      exact ⟨by rw [List.length_append, List.length_take]; omega, hA.torn hw cc⟩
theorem Compact_on (h : KvAt j q p S clean false o N w) (hf : FsIn k p M o K L w0 w) (hj : j ≠ k) (hs : LogSt M S clean n B) (hd : M.dead = false) (hK : K ≤ 100000000) (hL : L ≤ 500000000) (hn : 1 ≤ n) {B' : Nat} (hB1 : B ≤ B') (hB2 : (wholeB S).length ≤ B') :
    Calls Try.prog 16 #[.pointer (some ⟨q, 0, none⟩)] w fun e w' => (e = .returned (.int .i64 0) ∧ KeepOk j k q p M (wholeB S) S N o (K + 10) (L + (wholeB S).length) w0 w w') ∨ (e = .returned (.int .i64 8) ∧ WrNo j k q p M S S clean n B' N o K L w0 w w') := by
  obtain ⟨there, b, hR, hLO, hbB, _⟩ := hs.ex
  rw [hd] at hR
  refine compact_by h fun bm hm => ?_
  refine (Keep_new h hf hj hR (.inr rfl) hm h.fit hK hL).mono fun _ _ he => ?_
  rcases he with ⟨h1, h2⟩ | ⟨h1, h2⟩
  · exact ⟨0, h1, .inl ⟨rfl, h2⟩⟩
  · refine ⟨8, h1, .inr ⟨rfl, wrNo_of h2 hf.own (Below.refl _ _) hB2 fun t b' hP => ?_⟩⟩
    rcases hP with ⟨_, rfl⟩ | ⟨_, rfl⟩
    · exact ⟨by omega, .inl (hLO.mono (by omega))⟩
    · exact ⟨hB2, .inr ((LogAll.whole h.fit).ok.mono (by omega))⟩
end
end Go.Mun
