/- Losses of power as they come in; a KV and its pairs around one of them. -/
import Derived.Test.YthjnebngdcdicaaKvT
namespace Go.Mun
open Go Go.RowKit Go.ChangeShapes Go.WideShapes Go.ChangeAt Go.Proofs Go.Maps

structure CrashF where
  op : Int
  cut : Int
  keep : List Bool
def crFC (x : CrashF) (vk : Value) : List Value := [.int .i64 x.op, .int .i64 x.cut, vk]
structure CrOk (x : CrashF) : Prop where
  o1 : -9223372036854775808 ≤ x.op
  o2 : x.op ≤ 9223372036854775807
  c1 : -9223372036854775808 ≤ x.cut
  c2 : x.cut ≤ 9223372036854775807
def rCr : Reader CrashF := fun w cs x => cs.length = 3 → ∃ vk, cs = crFC x vk ∧ CrOk x ∧ Bools w vk x.keep
theorem bd_i64' {x : Int} (h : (Lit.int .i64 x).wf = true) : -9223372036854775808 ≤ x ∧ x ≤ 9223372036854775807 := by
  unfold Lit.wf at h
  exact ⟨of_decide_eq_true (Bool.and_eq_true_iff.1 h).1, of_decide_eq_true (Bool.and_eq_true_iff.1 h).2⟩
set_option maxRecDepth 100000 in
theorem opens_cr {H : Type} (enc : TypeId × Value → H) : Opens enc Try.prog 0 (fun _ => true) true 58 rCr := by
  intro w fuel cs x hx
  obtain ⟨n5, y5, h5⟩ := trod_at Try.underlying58 hx 0 rfl (e := 3) (off := 0) (size := 1) rfl rfl (by kernel_rfl)
  obtain ⟨n6, y6, h6⟩ := trod_at Try.underlying58 hx 1 rfl (e := 3) (off := 1) (size := 1) rfl rfl (by kernel_rfl)
  obtain ⟨n7, y7, h7⟩ := trod_at Try.underlying58 hx 2 rfl (e := 56) (off := 2) (size := 1) rfl rfl (by kernel_rfl)
  obtain ⟨op, e5, b5⟩ := opens_int enc 0 (fun _ => true) true Try.underlying3 w n5 _ y5 h5
  obtain ⟨cut, e6, b6⟩ := opens_int enc 0 (fun _ => true) true Try.underlying3 w n6 _ y6 h6
  obtain ⟨keep, vk, e7, b7⟩ := opens_slice enc 0 (fun _ => true) true Try.underlying56 (by kernel_rfl) (opens_bool enc 0 (fun _ => true) true Try.underlying4) w n7 _ y7 h7
  refine ⟨⟨op, cut, keep⟩, fun hl => ⟨vk, ?_, ⟨(bd_i64' b5).1, (bd_i64' b5).2, (bd_i64' b6).1, (bd_i64' b6).2⟩, Bools.of_slice b7⟩⟩
  match cs, hl with
  | [a4, a5, a6], _ =>
    simp at e5 e6 e7
    subst e5 e6 e7
    rfl
/-- a Crash that came in -/
theorem cr_of {H : Type} {enc : TypeId × Value → H} {W : World} {v : Value} (h : ArgOk enc Try.prog W 58 v) : ∃ x vk, v = .agg #[.int .i64 x.op, .int .i64 x.cut, vk] ∧ CrOk x ∧ Bools W vk x.keep := by
  obtain ⟨cs, rfl, hs, _, fuel, y, hy⟩ := arg_cells Try.underlying58 rfl h
  have hs3 : cs.size = 3 := hs.trans (by kernel_rfl)
  obtain ⟨x, hx⟩ := opens_cr enc W fuel cs.toList y hy
  obtain ⟨vk, e, h1, h2⟩ := hx (by simpa using hs3)
  refine ⟨x, vk, ?_, h1, h2⟩
  have e2 : cs = (crFC x vk).toArray := by rw [← e]
  rw [e2]
  rfl
/-- a Crash of a row -/
theorem cr_at {w w' : World} {A : Option Addr} {n : Nat} {xs : List Value} {l : List CrashF} (hr : Rd w' A xs) (hl : l.length = n) (hx : xs.length = n * 3) (hb : ∀ i (h : i < l.length), rCr w (chunk xs 3 i) l[i]) {k : Nat} (hk : k < n) :
    ∃ (ad : Addr) (a : CrashF) (vk : Value), A = some ad ∧ w'.cell? (ad.add (k * 3)) = some (.int .i64 a.op) ∧ w'.cell? ⟨(ad.add (k * 3)).block, (ad.add (k * 3)).off + 1, none⟩ = some (.int .i64 a.cut) ∧ w'.cell? ⟨(ad.add (k * 3)).block, (ad.add (k * 3)).off + 2, none⟩ = some vk ∧ l[k]? = some a ∧
      CrOk a ∧ Bools w vk a.keep := by
  have hc : (chunk xs 3 k).length = 3 := by unfold chunk; rw [List.length_take, List.length_drop]; omega
  obtain ⟨vk, e, h1, h2⟩ := hb k (by omega) hc
  have hg : ∀ j, j < 3 → xs[k * 3 + j]? = (chunk xs 3 k)[j]? := fun j hj => by
    unfold chunk
    rw [List.getElem?_take, if_pos hj, List.getElem?_drop]
  obtain ⟨ad, rfl, c0⟩ := hr (k * 3) _ (by have := hg 0 (by omega); rw [Nat.add_zero] at this; rw [this, e]; rfl)
  have hcj : ∀ j u, 0 < j → j < 3 → (crFC l[k] vk)[j]? = some u → w'.cell? ⟨(ad.add (k * 3)).block, (ad.add (k * 3)).off + j, none⟩ = some u := fun j u h0 hj hu => by
    obtain ⟨ad', e1, c1⟩ := hr (k * 3 + j) u (by rw [hg j hj, e]; exact hu)
    injection e1 with e1
    subst e1
    rwa [add_beside _ _ h0] at c1
  exact ⟨_, l[k], vk, rfl, c0, hcj 1 _ (by omega) (by omega) rfl, hcj 2 _ (by omega) (by omega) rfl, List.getElem?_eq_getElem (by omega), h1, h2⟩
/-- the block of a Crash, the eighth object's -/
structure CrBox (b : Nat) (o : Own) (w : World) (cs : Array Value) : Prop where
  blk : Blk w b 58 cs
  own : o b = some (7, .fs)
section
variable {b i : Nat} {o o' : Own} {w w' : World} {cs cs' : Array Value}
theorem CrBox.turn (h : CrBox b o w cs) (hT : Turn i o o' w w') (hi : 7 ≠ i) : CrBox b o' w' cs := by
  have e := hT.other hi h.blk.lt h.own
  exact ⟨h.blk.same e.1, e.2⟩
theorem CrBox.ext (h : CrBox b o w cs) (hb : Below w.heap.size w w') : CrBox b o w' cs := ⟨h.blk.ext hb, h.own⟩
theorem CrBox.put (h : CrBox b o w cs) (ho : OwnIn o w) (hx : Blk w' b 58 cs') (hg : w.grownBy w' (some b)) : CrBox b o w' cs' ∧ Turn 7 o o w w' ∧ OwnIn o w' := ⟨⟨hx, h.own⟩, Turn.wrote ho hg h.own, ho.more hg.size⟩
end
/-- a KV, the block of a Crash, and two rows of pairs -/
structure Ob (p q b : Nat) (M : FSs) (S S2 : PLB) (clean : Bool) (t : Nat) (v1 v2 : Value) (cs : Array Value) (o : Own) (w0 w : World) : Prop where
  kt : KT 0 1 p q M S clean t o w0 w
  bx : CrBox b o w cs
  p1 : PairsF o w v1 S
  p2 : PairsF o w v2 S2
section
variable {p q b t : Nat} {M : FSs} {S S2 : PLB} {clean : Bool} {v1 v2 : Value} {cs cs' : Array Value} {o : Own} {w0 w w' : World}
theorem Ob.below (h : Ob p q b M S S2 clean t v1 v2 cs o w0 w) : Below w0.heap.size w0 w := h.kt.fs.below
theorem Ob.put (h : Ob p q b M S S2 clean t v1 v2 cs o w0 w) (hx : Blk w' b 58 cs') (hg : w.grownBy w' (some b)) : Ob p q b M S S2 clean t v1 v2 cs' o w0 w' := by
  obtain ⟨g1, g2, g3⟩ := h.bx.put h.kt.fs.own hx hg
  exact ⟨h.kt.turn g3 g2 (by decide) (by decide), g1, h.p1.turn g2, h.p2.turn g2⟩
/-- behind Plan -/
structure Oc (p q : Nat) (M : FSs) (S S2 : PLB) (clean : Bool) (t : Nat) (v1 v2 : Value) (o : Own) (w0 w : World) : Prop where
  kt : KT 0 1 p q M S clean t o w0 w
  p1 : PairsF o w v1 S
  p2 : PairsF o w v2 S2
theorem Ob_plan (h : Ob p q b M S S2 clean t v1 v2 cs o w0 w) (op cut : Int) (kv : Value) (keep : List Bool) (hop : -9223372036854775808 ≤ op ∧ op ≤ 9223372036854775807) (hcut : -9223372036854775808 ≤ cut ∧ cut ≤ 9223372036854775807) (hk : Bools w0 kv keep) (hl : keep.length ≤ 100) :
    Calls Try.prog 24 #[.pointer (some ⟨p, 0, none⟩), .agg #[.int .i64 op, .int .i64 cut, kv]] w fun e w' => e = .returned (.tuple #[]) ∧ ∃ o', Oc p q (planM M op cut keep) S S2 clean t v1 v2 o' w0 w' := by
  obtain ⟨N, hN, hkv⟩ := h.kt.kv
  refine (Plan_t h.kt.ft op cut kv keep hop hcut (hk.ext h.below) (Free.argB h.kt.fs.base hk) (by omega)).mono ?_
  rintro e w' ⟨he, o', h1, h2⟩
  exact ⟨he, o', ⟨h1.fs, ⟨N, hN, hkv.turn h2 (by decide)⟩, h.kt.st.plan _ _ _, h.kt.on, h.kt.small⟩, h.p1.turn h2, h.p2.turn h2⟩
/-- behind the call: it went well, or the power failed -/
def After (p : Nat) (S S2 : PLB) (t : Nat) (v1 v2 : Value) (x : Int) (w0 w : World) : Prop :=
  ∃ M S' o, FT 0 p M S' t o w0 w ∧ PairsF o w v1 S ∧ PairsF o w v2 S2 ∧ ((x = 0 ∧ M.dead = false ∧ S' = S2) ∨ (x = 8 ∧ M.dead = true ∧ (S' = S ∨ S' = S2)))
theorem Oc_write {vl : Value} {l : List Rec} (h : Oc p q M S (doneP S l) clean t v1 v2 o w0 w) (ht : t ≤ 30) (hl : SliceOf 3 rOp w vl l) (hw : SmallL l) :
    Calls Try.prog 12 #[.pointer (some ⟨q, 0, none⟩), vl] w fun e w' => ∃ x, e = .returned (.int .i64 x) ∧ After p S (doneP S l) (t + 1) v1 v2 x w0 w' := by
  refine (Write_t h.kt (by decide) ht hl hw).mono ?_
  rintro e w' (⟨he, M', o1, o', w1, h1, h2, h3, h4⟩ | ⟨he, M', o1, o', w1, h1, h2, h3, h4⟩)
  · exact ⟨0, he, M', _, o', h1.ft, (h.p1.turn h3).turn h4, (h.p2.turn h3).turn h4, .inl ⟨rfl, h1.on, rfl⟩⟩
  · rcases h1.ft with hf | hf
    · exact ⟨8, he, M', _, o', hf, (h.p1.turn h3).turn h4, (h.p2.turn h3).turn h4, .inr ⟨rfl, h1.off, .inl rfl⟩⟩
    · exact ⟨8, he, M', _, o', hf, (h.p1.turn h3).turn h4, (h.p2.turn h3).turn h4, .inr ⟨rfl, h1.off, .inr rfl⟩⟩
theorem Oc_compact (h : Oc p q M S S2 clean t v1 v2 o w0 w) (ht : t ≤ 30) :
    Calls Try.prog 16 #[.pointer (some ⟨q, 0, none⟩)] w fun e w' => ∃ x, e = .returned (.int .i64 x) ∧ After p S S (t + 1) v1 v1 x w0 w' := by
  refine (Compact_t h.kt (by decide) ht).mono ?_
  rintro e w' (⟨he, M', o1, o', w1, h1, h2, h3, h4⟩ | ⟨he, M', o1, o', w1, h1, h2, h3, h4⟩)
  · exact ⟨0, he, M', _, o', h1.ft, (h.p1.turn h3).turn h4, (h.p1.turn h3).turn h4, .inl ⟨rfl, h1.on, rfl⟩⟩
  · rcases h1.ft with hf | hf
    · exact ⟨8, he, M', _, o', hf, (h.p1.turn h3).turn h4, (h.p1.turn h3).turn h4, .inr ⟨rfl, h1.off, .inl rfl⟩⟩
    · exact ⟨8, he, M', _, o', hf, (h.p1.turn h3).turn h4, (h.p1.turn h3).turn h4, .inr ⟨rfl, h1.off, .inr rfl⟩⟩
/-- files and two rows of pairs -/
structure Of (p : Nat) (M : FSs) (S' S S2 : PLB) (t : Nat) (v1 v2 : Value) (o : Own) (w0 w : World) : Prop where
  ft : FT 0 p M S' t o w0 w
  p1 : PairsF o w v1 S
  p2 : PairsF o w v2 S2
variable {S' : PLB}
theorem Of.ext (h : Of p M S' S S2 t v1 v2 o w0 w) (hb : Below w.heap.size w w') : Of p M S' S S2 t v1 v2 o w0 w' := ⟨h.ft.ext hb, h.p1.ext h.ft.own hb, h.p2.ext h.ft.own hb⟩
theorem Of_dead (h : Of p M S' S S2 t v1 v2 o w0 w) (x : Bool) (hx : M.dead = x) : Calls Try.prog 25 #[.pointer (some ⟨p, 0, none⟩)] w fun e w' => e = .returned (.bool x) ∧ w = w' := by
  rw [← hx]
  exact Dead_t h.ft
theorem Of_plan (h : Of p M S' S S2 t v1 v2 o w0 w) :
    Calls Try.prog 24 #[.pointer (some ⟨p, 0, none⟩), .agg #[.int .i64 (-1), .int .i64 0, .slice none 0 0]] w fun e w' => e = .returned (.tuple #[]) ∧ ∃ o', Of p (planM M (-1) 0 []) S' S S2 t v1 v2 o' w0 w' :=
  (Plan_t h.ft (-1) 0 _ [] (by decide) (by decide) (Bools.nil _) Free.nil (by decide)).mono fun _ _ ⟨h1, o', h2, h3⟩ => ⟨h1, o', h2, h.p1.turn h3, h.p2.turn h3⟩
theorem Of_start (h : Of p M S' S S2 t v1 v2 o w0 w) :
    Calls Try.prog 26 #[.pointer (some ⟨p, 0, none⟩)] w fun e w' => e = .returned (.tuple #[]) ∧ Of p (startM M) S' S S2 t v1 v2 o w0 w' :=
  (Start_t h.ft).mono fun _ _ ⟨h1, h2, h3⟩ => ⟨h1, h2, h.p1.turn h3, h.p2.turn h3⟩
theorem Of_open (j : Nat) (h : Of p M S' S S2 t v1 v2 o w0 w) (hd : M.dead = false) (hj : 0 ≠ j) (ht : t ≤ 31) :
    Calls Try.prog 11 #[.pointer (some ⟨p, 0, none⟩)] w fun e w' => ∃ q, e = .returned (.tuple #[.pointer (some ⟨q, 0, none⟩), .int .i64 0]) ∧ ∃ clean o', KT 0 j p q M S' clean t o' w0 w' ∧ Of p M S' S S2 t v1 v2 o' w0 w' ∧ Turn j o o' w w' := by
  refine (Open_t h.ft hd hj ht).mono ?_
  rintro e w' ⟨q, clean, o', he, h1, h2⟩
  exact ⟨q, he, clean, o', h1, ⟨h.ft.turn h1.fs.own h2 hj, h.p1.turn h2, h.p2.turn h2⟩, h2⟩
end
end Go.Mun
