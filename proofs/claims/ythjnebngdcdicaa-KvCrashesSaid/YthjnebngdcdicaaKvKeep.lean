/- KV.keep. -/
import Derived.Test.YthjnebngdcdicaaKvAnew
import Derived.Laws.Cover3
namespace Go.Mun
open Go Go.RowKit Go.Proofs Go.Maps

/-- what is kept is there -/
def KeepOk (j k q p : Nat) (M : FSs) (W : List UInt8) (S : PLB) (N : Nat) (o : Own) (K L : Nat) (w0 w w' : World) : Prop :=
  ∃ M' o1 o' w1, Turn k o o1 w w1 ∧ Turn j o1 o' w1 w' ∧ FsIn k p M' o' K L w0 w' ∧ KvAt j q p S true false o' N w' ∧ OpOn M M' ∧ Rest false M' true W ∧ (getP M.now cAnew = none → getP M'.now cAnew = none)
/-- the power failed -/
def KeepNo (j k q p : Nat) (M : FSs) (P : Bool → List UInt8 → Prop) (S : PLB) (clean : Bool) (N : Nat) (o : Own) (K L : Nat) (w0 w w' : World) : Prop :=
  ∃ M' o1 o' w1, Turn k o o1 w w1 ∧ Turn j o1 o' w1 w' ∧ FsIn k p M' o' K L w0 w' ∧ KvAt j q p S clean true o' N w' ∧ M.op ≠ -1 ∧ ∃ t b', Rest true M' t b' ∧ P t b'
/-- the power was off -/
def KeepOff (j k q p : Nat) (M : FSs) (S : PLB) (clean : Bool) (N : Nat) (o : Own) (K L : Nat) (w0 w w' : World) : Prop :=
  Turn j o o w w' ∧ FsIn k p M o K L w0 w' ∧ KvAt j q p S clean true o N w'
theorem headK_of {j q p N : Nat} {S : PLB} {clean dead : Bool} {o : Own} {w : World} (h : KvAt j q p S clean dead o N w) : ∃ bm, HeadK j q o w #[.pointer (some ⟨p, 0, none⟩), .map (some bm), .bool clean, .bool dead] ∧ KvMap o w bm S N := by
  obtain ⟨⟨bm, h1, h2⟩, h3, _⟩ := h
  exact ⟨bm, ⟨h1, h3⟩, h2⟩
/-- a field of the head is written -/
theorem HeadK.put {j q : Nat} {o : Own} {w w' : World} {cs cs' : Array Value} (h : HeadK j q o w cs) (ho : OwnIn o w) (hx : Blk w' q 71 cs') (hg : w.grownBy w' (some q)) : HeadK j q o w' cs' ∧ Turn j o o w w' ∧ OwnIn o w' :=
  ⟨⟨hx, h.own⟩, Turn.wrote ho hg h.own, ho.more hg.size⟩
section
variable {j k p q N : Nat} {M : FSs} {o : Own} {K L : Nat} {w0 w : World} {S : PLB} {clean dead : Bool}
set_option maxRecDepth 100000 in
set_option maxHeartbeats 4000000 in
theorem Keep_off (h : KvAt j q p S clean dead o N w) (hf : FsIn k p M o K L w0 w) (hj : j ≠ k) (hd : dead = true ∨ M.dead = true) (vb vm : Value) :
    Calls Try.prog 33 #[.pointer (some ⟨q, 0, none⟩), vb, vm] w fun e w' => e = .returned (.int .i64 8) ∧ KeepOff j k q p M S clean N o K L w0 w w' := by
  obtain ⟨bm, hx, hm⟩ := headK_of h
  have HFIN : ∀ w' : World, Blk w' q 71 #[.pointer (some ⟨p, 0, none⟩), .map (some bm), .bool clean, .bool true] → w.grownBy w' (some q) → KeepOff j k q p M S clean N o K L w0 w w' := fun w' h1 hg => by
    obtain ⟨g1, g2, g3⟩ := hx.put hf.own h1 hg
    exact ⟨g2, hf.turn g3 g2 (Ne.symm hj), ⟨⟨bm, g1.blk, hm.turn g2⟩, g1.own, h.fit⟩⟩
  have HFI := Lib.hid HFIN
  have HX := Lib.hid hx.blk
  have CD := Lib.hid (Dead_in hf)
  have y0 := hx.blk.cellv (i := 0) rfl
  have y3 := hx.blk.cellv (i := 3) rfl
  clear HFIN h hf hx hm
  cases dead
  · have hd' : M.dead = true := hd.resolve_left (by simp)
    rw [hd'] at CD
    clear hd hd'
    go_enter Try.func33, Try.ntmps33
    go_wp2_with (first
      | (go_at_call 25; (with_reducible refine CD.out.mono ?_); rintro e w1 ⟨rfl, rfl⟩)
      | ((with_reducible refine gd_store ?_); refine wpList_store_cell rfl 4 (.tmp 21) (.const (.bool true)) rfl (i := 3) (v := .bool true) HX.out (show 3 < 4 by decide) (by kernel_rfl) rfl rfl rfl ?_; intro w6 hx6 hg6)
      | fail)
    go_ret
    exact ⟨rfl, HFI.out _ hx6 hg6⟩
  · clear hd
    go_enter Try.func33, Try.ntmps33
    go_wp2_with (first
      | ((with_reducible refine gd_store ?_); refine wpList_store_cell rfl 4 (.tmp 21) (.const (.bool true)) rfl (i := 3) (v := .bool true) HX.out (show 3 < 4 by decide) (by kernel_rfl) rfl rfl rfl ?_; intro w6 hx6 hg6)
      | fail)
    go_ret
    exact ⟨rfl, HFI.out _ hx6 hg6⟩
end
/-- what a row behind the log leaves where the power fails -/
def TornP (b l : List UInt8) (t : Bool) (b' : List UInt8) : Prop := t = true ∧ ∃ c, b' = b ++ l.take c
/-- what a log anew leaves where the power fails -/
def AnewP (there : Bool) (b W : List UInt8) (t : Bool) (b' : List UInt8) : Prop := (t = there ∧ b' = b) ∨ (t = true ∧ b' = W)
section
variable {j k p q N bm N' : Nat} {M : FSs} {o : Own} {K L : Nat} {w0 w : World} {S S' : PLB} {b l : List UInt8}
set_option maxRecDepth 100000 in
set_option maxHeartbeats 8000000 in
theorem Keep_app (h : KvAt j q p S true false o N w) (hf : FsIn k p M o K L w0 w) (hj : j ≠ k) (hR : Rest false M true b) {ad : Addr} {n c : Nat} (hv : Bytes w (.slice (some ad) n c) l) (hvf : Free o k (.slice (some ad) n c)) (hl : l.length ≤ 400000000) (hm' : KvMap o w bm S' N') (hS' : FitS S') (hK : K ≤ 100000000) (hL : L ≤ 500000000) :
    Calls Try.prog 33 #[.pointer (some ⟨q, 0, none⟩), .slice (some ad) n c, .map (some bm)] w fun e w' => (e = .returned (.int .i64 0) ∧ KeepOk j k q p M (b ++ l) S' N' o (K + 10) (L + l.length) w0 w w') ∨ (e = .returned (.int .i64 8) ∧ KeepNo j k q p M (TornP b l) S true N o (K + 10) (L + l.length) w0 w w') := by
  obtain ⟨bm0, hx, hm⟩ := headK_of h
  have hfit := h.fit
  have qn : ∀ w : World, (binOp .neq 22 (.slice (some ad) n c) (.slice none 0 0)).run Try.prog w = .ok (.bool true) w := fun w => run_neq_slice_nil w _ _ _ _ _ Try.underlying22
  have CD := Lib.hid (Dead_in hf)
  rw [hR.dead] at CD
  have CA := Lib.hid (App_in hf cLog (by decide) _ l hv hvf (by omega) (by omega) (by omega))
  have CSY := Lib.hid (fun (o1 : Own) (w1 : World) (h : FsIn k p (appM M cLog l) o1 (K + 2) (L + l.length) w0 w1) => Sync_in h cLog (by decide) (by omega) (by omega))
  have HX := Lib.hid hx
  have HJ := Lib.hid hj
  have HNO : ∀ (M' : FSs) (o1 : Own) (w1 w' : World) (K1 : Nat), K1 ≤ K + 10 → FsIn k p M' o1 K1 (L + l.length) w0 w1 → Turn k o o1 w w1 → (∃ t b', Rest true M' t b' ∧ TornP b l t b') → M.op ≠ -1 → Blk w' q 71 #[.pointer (some ⟨p, 0, none⟩), .map (some bm0), .bool true, .bool true] → w1.grownBy w' (some q) → KeepNo j k q p M (TornP b l) S true N o (K + 10) (L + l.length) w0 w w' := fun M' o1 w1 w' K1 hK1 hf1 hT hR1 hop h1 hg => by
    obtain ⟨g1, g2, g3⟩ := (hx.turn hT hj).put hf1.own h1 hg
    exact ⟨M', o1, o1, w1, hT, g2, (hf1.turn g3 g2 (Ne.symm hj)).more hK1 (Nat.le_refl _), ⟨⟨bm0, g1.blk, (hm.turn hT).turn g2⟩, g1.own, hfit⟩, hop, hR1⟩
  have HOK : ∀ (M' : FSs) (o1 : Own) (w1 w2 w' : World) (K1 : Nat), K1 ≤ K + 10 → FsIn k p M' o1 K1 (L + l.length) w0 w1 → Turn k o o1 w w1 → Rest false M' true (b ++ l) → OpOn M M' → M'.now = M.now → Blk w2 q 71 #[.pointer (some ⟨p, 0, none⟩), .map (some bm), .bool true, .bool false] → w1.grownBy w2 (some q) → Blk w' q 71 #[.pointer (some ⟨p, 0, none⟩), .map (some bm), .bool true, .bool false] → w2.grownBy w' (some q) → KeepOk j k q p M (b ++ l) S' N' o (K + 10) (L + l.length) w0 w w' := fun M' o1 w1 w2 w' K1 hK1 hf1 hT hR1 hop hnow h1 hg h2 hg2 => by
    obtain ⟨g1, g2, g3⟩ := (hx.turn hT hj).put hf1.own h1 hg
    obtain ⟨e1, e2, e3⟩ := g1.put g3 h2 hg2
    have hTj := g2.trans e2
    exact ⟨M', o1, o1, w1, hT, hTj, (hf1.turn e3 hTj (Ne.symm hj)).more hK1 (Nat.le_refl _), ⟨⟨bm, e1.blk, (hm'.turn hT).turn hTj⟩, e1.own, hS'⟩, hop, hR1, fun e => by rw [hnow]; exact e⟩
  have HN := Lib.hid HNO
  have HO := Lib.hid HOK
  have y0 := hx.blk.cellv (i := 0) rfl
  have y2 := hx.blk.cellv (i := 2) rfl
  have y3 := hx.blk.cellv (i := 3) rfl
  clear HNO HOK h hf hm hm' hv hvf hfit hx
  rcases rest_app hR l with ⟨g1, ho1, R⟩ | ⟨g1, on1, R1, hnow1⟩
  · simp only [g1] at CA
    have HOP := Lib.hid (opOn_zero (OpOn.refl M) ho1)
    have HRE := Lib.hid (show ∃ t b', Rest true (appM M cLog l) t b' ∧ TornP b l t b' from ⟨true, b, R, rfl, 0, by simp⟩)
    clear R ho1 hR CSY
    go_enter Try.func33, Try.ntmps33
    go_wp2_with (first
      | (go_at_call 25; (with_reducible refine CD.out.mono ?_); rintro e w1 ⟨rfl, rfl⟩)
      | (go_at_call 28; (with_reducible refine CA.out.mono ?_); rintro e w4 ⟨rfl, o4, hF4, T4⟩; have hX4 := HX.out.turn T4 HJ.out; have y0 := hX4.blk.cellv (i := 0) rfl)
      | ((with_reducible refine gd_store ?_); refine wpList_store_cell rfl 4 (.tmp 50) (.const (.bool true)) rfl (i := 3) (v := .bool true) hX4.blk (show 3 < 4 by decide) (by kernel_rfl) rfl rfl rfl ?_; intro w6 hx6 hg6)
      | fail)
    go_ret
    exact .inr ⟨rfl, HN.out _ _ _ _ _ (by omega) hF4 T4 HRE.out HOP.out hx6 hg6⟩
  · simp only [g1] at CA
    rcases logIn_sync R1 with ⟨g2, ho2, cc, R⟩ | ⟨g2, on2, R, hnow2⟩
    · simp only [g2] at CSY
      have HOP := Lib.hid (opOn_zero on1 ho2)
      have HRE := Lib.hid (show ∃ t b', Rest true (syncM (appM M cLog l) cLog) t b' ∧ TornP b l t b' from ⟨true, _, R, rfl, cc, rfl⟩)
      clear R ho2 hR R1 hnow1
      go_enter Try.func33, Try.ntmps33
      go_wp2_with (first
        | (go_at_call 25; (with_reducible refine CD.out.mono ?_); rintro e w1 ⟨rfl, rfl⟩)
        | (go_at_call 28; (with_reducible refine CA.out.mono ?_); rintro e w4 ⟨rfl, o4, hF4, T4⟩; have hX4 := HX.out.turn T4 HJ.out; have y0 := hX4.blk.cellv (i := 0) rfl)
        | (go_at_call 48; (with_reducible refine (CSY.out _ _ hF4).mono ?_); rintro e w5 ⟨rfl, o5, hF5, T5⟩; have hX5 := hX4.turn T5 HJ.out; have y0 := hX5.blk.cellv (i := 0) rfl)
        | ((with_reducible refine gd_store ?_); refine wpList_store_cell rfl 4 (.tmp 50) (.const (.bool true)) rfl (i := 3) (v := .bool true) hX5.blk (show 3 < 4 by decide) (by kernel_rfl) rfl rfl rfl ?_; intro w6 hx6 hg6)
        | fail)
      go_ret
      exact .inr ⟨rfl, HN.out _ _ _ _ _ (by omega) hF5 (T4.trans T5) HRE.out HOP.out hx6 hg6⟩
    · simp only [g2] at CSY
      have HON := Lib.hid (on1.trans on2)
      have HRE := Lib.hid R
      have HNW := Lib.hid (hnow2.trans hnow1)
      clear R hR R1 hnow1 hnow2
      have t1 : True := trivial
      go_enter Try.func33, Try.ntmps33
      go_wp2_with (first
        | (go_at_call 25; (with_reducible refine CD.out.mono ?_); rintro e w1 ⟨rfl, rfl⟩)
        | (go_at_call 28; (with_reducible refine CA.out.mono ?_); rintro e w4 ⟨rfl, o4, hF4, T4⟩; have hX4 := HX.out.turn T4 HJ.out; have y0 := hX4.blk.cellv (i := 0) rfl)
        | (go_at_call 48; (with_reducible refine (CSY.out _ _ hF4).mono ?_); rintro e w5 ⟨rfl, o5, hF5, T5⟩; have hX5 := hX4.turn T5 HJ.out; have y0 := hX5.blk.cellv (i := 0) rfl)
        | ((with_reducible refine gd_store ?_); have _t := t1; refine wpList_store_cell rfl 69 (.tmp 55) (.tmp 53) rfl (i := 1) (v := .map (some bm)) hX5.blk (show 1 < 4 by decide) (by kernel_rfl) rfl rfl rfl ?_; clear t1; intro w6 hx6 hg6)
        | ((with_reducible refine gd_store ?_); refine wpList_store_cell rfl 4 (.tmp 57) (.const (.bool true)) rfl (i := 2) (v := .bool true) hx6 (show 2 < 4 by decide) (by kernel_rfl) rfl rfl rfl ?_; intro w7 hx7 hg7)
        | fail)
      go_ret
      exact .inl ⟨rfl, HO.out _ _ _ _ _ _ (by omega) hF5 (T4.trans T5) HRE.out HON.out HNW.out hx6 hg6 hx7 hg7⟩
set_option maxRecDepth 100000 in
set_option maxHeartbeats 8000000 in
theorem Keep_new {clean there : Bool} {vb : Value} (h : KvAt j q p S clean false o N w) (hf : FsIn k p M o K L w0 w) (hj : j ≠ k) (hR : Rest false M there b) (hc : clean = false ∨ vb = .slice none 0 0) (hm' : KvMap o w bm S' N') (hS' : FitS S') (hK : K ≤ 100000000) (hL : L ≤ 500000000) :
    Calls Try.prog 33 #[.pointer (some ⟨q, 0, none⟩), vb, .map (some bm)] w fun e w' => (e = .returned (.int .i64 0) ∧ KeepOk j k q p M (wholeB S') S' N' o (K + 10) (L + (wholeB S').length) w0 w w') ∨ (e = .returned (.int .i64 8) ∧ KeepNo j k q p M (AnewP there b (wholeB S')) S clean N o (K + 10) (L + (wholeB S').length) w0 w w') := by
  obtain ⟨bm0, hx, hm⟩ := headK_of h
  have hfit := h.fit
  have qn : ∀ w : World, (binOp .neq 22 (.slice none 0 0) (.slice none 0 0)).run Try.prog w = .ok (.bool false) w := fun w => run_neq_slice_nil w _ _ _ _ _ Try.underlying22
  have CD := Lib.hid (Dead_in hf)
  rw [hR.dead] at CD
  have CAN := Lib.hid (Anew_any hx rfl hf hm' hS' rfl hR hj hK hL)
  have HX := Lib.hid hx
  have HJ := Lib.hid hj
  have HNO : ∀ (w1 w' : World) (M' : FSs) (o1 : Own), FsIn k p M' o1 (K + 10) (L + (wholeB S').length) w0 w1 → Turn k o o1 w w1 → M.op ≠ -1 → (Rest true M' there b ∨ Rest true M' true (wholeB S')) → Blk w' q 71 #[.pointer (some ⟨p, 0, none⟩), .map (some bm0), .bool clean, .bool true] → w1.grownBy w' (some q) → KeepNo j k q p M (AnewP there b (wholeB S')) S clean N o (K + 10) (L + (wholeB S').length) w0 w w' := fun w1 w' M' o1 hf1 hT hop hR1 h1 hg => by
    obtain ⟨g1, g2, g3⟩ := (hx.turn hT hj).put hf1.own h1 hg
    refine ⟨M', o1, o1, w1, hT, g2, hf1.turn g3 g2 (Ne.symm hj), ⟨⟨bm0, g1.blk, (hm.turn hT).turn g2⟩, g1.own, hfit⟩, hop, ?_⟩
    rcases hR1 with hR1 | hR1
    · exact ⟨_, _, hR1, .inl ⟨rfl, rfl⟩⟩
    · exact ⟨_, _, hR1, .inr ⟨rfl, rfl⟩⟩
  have HOK : ∀ (w1 w2 w' : World) (M' : FSs) (o1 : Own), FsIn k p M' o1 (K + 10) (L + (wholeB S').length) w0 w1 → Turn k o o1 w w1 → OpOn M M' → (Rest false M' true (wholeB S') ∧ getP M'.now cAnew = none) → Blk w2 q 71 #[.pointer (some ⟨p, 0, none⟩), .map (some bm), .bool clean, .bool false] → w1.grownBy w2 (some q) → Blk w' q 71 #[.pointer (some ⟨p, 0, none⟩), .map (some bm), .bool true, .bool false] → w2.grownBy w' (some q) → KeepOk j k q p M (wholeB S') S' N' o (K + 10) (L + (wholeB S').length) w0 w w' := fun w1 w2 w' M' o1 hf1 hT hop hR1 h1 hg h2 hg2 => by
    obtain ⟨g1, g2, g3⟩ := (hx.turn hT hj).put hf1.own h1 hg
    obtain ⟨e1, e2, e3⟩ := g1.put g3 h2 hg2
    have hTj := g2.trans e2
    exact ⟨M', o1, o1, w1, hT, hTj, hf1.turn e3 hTj (Ne.symm hj), ⟨⟨bm, e1.blk, (hm'.turn hT).turn hTj⟩, e1.own, hS'⟩, hop, hR1.1, fun _ => hR1.2⟩
  have HN := Lib.hid HNO
  have HO := Lib.hid HOK
  have y0 := hx.blk.cellv (i := 0) rfl
  have y2 := hx.blk.cellv (i := 2) rfl
  have y3 := hx.blk.cellv (i := 3) rfl
  clear HNO HOK h hf hm hm' hfit hx
  cases clean
  · have t1 : True := trivial
    clear hc
    go_enter Try.func33, Try.ntmps33
    go_wp2_with (first
      | (go_at_call 25; (with_reducible refine CD.out.mono ?_); rintro e w1 ⟨rfl, rfl⟩)
      | (go_at_call 49; (with_reducible refine CAN.out.mono ?_); rintro e w4 (⟨rfl, M4, o4, hF4, T4, on4, hR4⟩ | ⟨rfl, M4, o4, hF4, T4, on4, hR4⟩) <;> have hX4 := HX.out.turn T4 HJ.out)
      | ((with_reducible refine gd_store ?_); refine wpList_store_cell rfl 4 (.tmp 50) (.const (.bool true)) rfl (i := 3) (v := .bool true) hX4.blk (show 3 < 4 by decide) (by kernel_rfl) rfl rfl rfl ?_; intro w6 hx6 hg6)
      | ((with_reducible refine gd_store ?_); have _t := t1; refine wpList_store_cell rfl 69 (.tmp 55) (.tmp 53) rfl (i := 1) (v := .map (some bm)) hX4.blk (show 1 < 4 by decide) (by kernel_rfl) rfl rfl rfl ?_; clear t1; intro w6 hx6 hg6)
      | ((with_reducible refine gd_store ?_); refine wpList_store_cell rfl 4 (.tmp 57) (.const (.bool true)) rfl (i := 2) (v := .bool true) hx6 (show 2 < 4 by decide) (by kernel_rfl) rfl rfl rfl ?_; intro w7 hx7 hg7)
      | fail)
    · go_ret
      exact .inl ⟨rfl, HO.out _ _ _ _ _ hF4 T4 on4 hR4 hx6 hg6 hx7 hg7⟩
    · go_ret
      exact .inr ⟨rfl, HN.out _ _ _ _ hF4 T4 on4 hR4 hx6 hg6⟩
  · obtain rfl : vb = .slice none 0 0 := hc.resolve_left (by simp)
    have t1 : True := trivial
    clear hc
    go_enter Try.func33, Try.ntmps33
    go_wp2_with (first
      | (go_at_call 25; (with_reducible refine CD.out.mono ?_); rintro e w1 ⟨rfl, rfl⟩)
      | (go_at_call 49; (with_reducible refine CAN.out.mono ?_); rintro e w4 (⟨rfl, M4, o4, hF4, T4, on4, hR4⟩ | ⟨rfl, M4, o4, hF4, T4, on4, hR4⟩) <;> have hX4 := HX.out.turn T4 HJ.out)
      | ((with_reducible refine gd_store ?_); refine wpList_store_cell rfl 4 (.tmp 50) (.const (.bool true)) rfl (i := 3) (v := .bool true) hX4.blk (show 3 < 4 by decide) (by kernel_rfl) rfl rfl rfl ?_; intro w6 hx6 hg6)
      | ((with_reducible refine gd_store ?_); have _t := t1; refine wpList_store_cell rfl 69 (.tmp 55) (.tmp 53) rfl (i := 1) (v := .map (some bm)) hX4.blk (show 1 < 4 by decide) (by kernel_rfl) rfl rfl rfl ?_; clear t1; intro w6 hx6 hg6)
      | ((with_reducible refine gd_store ?_); refine wpList_store_cell rfl 4 (.tmp 57) (.const (.bool true)) rfl (i := 2) (v := .bool true) hx6 (show 2 < 4 by decide) (by kernel_rfl) rfl rfl rfl ?_; intro w7 hx7 hg7)
      | fail)
    · go_ret
      exact .inl ⟨rfl, HO.out _ _ _ _ _ hF4 T4 on4 hR4 hx6 hg6 hx7 hg7⟩
    · go_ret
      exact .inr ⟨rfl, HN.out _ _ _ _ hF4 T4 on4 hR4 hx6 hg6⟩
end
end Go.Mun
