/- How a KV lies in memory; its pairs. -/
import Derived.Test.YthjnebngdcdicaaKvPure
import Derived.Deep.Cut
import Derived.Deep.QuietTactic
import Derived.BigQuiet
namespace Go.Mun
open Go Go.RowKit Go.Proofs Go.Maps

abbrev PLB := PL (List UInt8)
/-- pairs that may be kept -/
structure FitS (S : PLB) : Prop where
  rises : Rises S
  len : S.length ≤ 1900
  each : ∀ e ∈ S, e.1.length ≤ 300 ∧ e.2.length ≤ 600
/-- a map of bytes, in blocks that are nobody's -/
structure KvMap (o : Own) (w : World) (bm : Nat) (S : PLB) (N : Nat) : Prop where
  map : ∃ T : PL (Value × List UInt8), MapV w bm T N ∧ mapP (·.2) T = S ∧ ∀ e ∈ T, Lone o w e.2.1 e.2.2
  none : o bm = none
/-- a KV at q, over the files at p -/
structure KvAt (j q p : Nat) (S : PLB) (clean dead : Bool) (o : Own) (N : Nat) (w : World) : Prop where
  head : ∃ bm, Blk w q 71 #[.pointer (some ⟨p, 0, none⟩), .map (some bm), .bool clean, .bool dead] ∧ KvMap o w bm S N
  own : o q = some (j, .fs)
  fit : FitS S
section
variable {o o' : Own} {w w' : World} {bm N : Nat} {S : PLB} {j q p : Nat} {clean dead : Bool}
theorem KvMap.turn {k : Nat} (h : KvMap o w bm S N) (hT : Turn k o o' w w') : KvMap o' w' bm S N := by
  obtain ⟨⟨T, h1, h2, h3⟩, h4⟩ := h
  have hb := h1.lt
  exact ⟨⟨T, h1.same (hT.block bm hb fun t => by rw [h4]; simp), h2, fun e he => (h3 e he).turn hT⟩, by rw [hT.old bm hb]; exact h4⟩
theorem KvMap.ext (h : KvMap o w bm S N) (hb : Below w.heap.size w w') : KvMap o w' bm S N := by
  obtain ⟨⟨T, h1, h2, h3⟩, h4⟩ := h
  exact ⟨⟨T, h1.ext hb, h2, fun e he => (h3 e he).ext hb⟩, h4⟩
theorem KvAt.turn {k : Nat} (h : KvAt j q p S clean dead o N w) (hT : Turn k o o' w w') (hj : j ≠ k) : KvAt j q p S clean dead o' N w' := by
  obtain ⟨⟨bm, h1, h2⟩, h3, h4⟩ := h
  have e := hT.other hj h1.lt h3
  exact ⟨⟨bm, h1.same e.1, h2.turn hT⟩, e.2, h4⟩
theorem KvAt.ext (h : KvAt j q p S clean dead o N w) (hb : Below w.heap.size w w') : KvAt j q p S clean dead o N w' := by
  obtain ⟨⟨bm, h1, h2⟩, h3, h4⟩ := h
  exact ⟨⟨bm, h1.ext hb, h2.ext hb⟩, h3, h4⟩
theorem KvMap.len (h : KvMap o w bm S N) : S.length ≤ N := by
  obtain ⟨⟨T, h1, h2, _⟩, _⟩ := h
  have := h1.len
  rw [← h2]
  unfold mapP
  rw [List.length_map]
  exact this
end
/-- a slice in new memory -/
def NewV (base : Nat) (u : Value) : Prop := ∀ ad n c, u = .slice (some ad) n c → base ≤ ad.block
/-- pairs that lie in new memory -/
def rPairO (base : Nat) : Reader PairB := fun w cs p => ∃ kv vv, cs = [kv, vv] ∧ (Bytes w kv p.1 ∧ NewV base kv) ∧ w.ownsRow base 5 1 vv p.2.length (bv p.2)
theorem rPairO_pair {base : Nat} {w : World} {cs : List Value} {p : PairB} (h : rPairO base w cs p) : rPair w cs p := by
  obtain ⟨kv, vv, e, h1, h2⟩ := h
  exact ⟨kv, vv, e, h1.1, Bytes.own h2⟩
/-- a row of such pairs -/
def PairsO (base : Nat) (w : World) (v : Value) (S : PLB) : Prop := ∃ xs, w.ownsRow base 51 2 v S.length xs ∧ RowC 2 (rPairO base) w xs S
theorem PairsO.slice {base : Nat} {w : World} {v : Value} {S : PLB} (h : PairsO base w v S) : SliceOf 2 rPair w v S := by
  obtain ⟨xs, h1, h2⟩ := h
  exact slice_of_own h1 rfl fun i hi => rPairO_pair (h2.2 i hi)
theorem PairsO.ext {base : Nat} {w w' : World} {v : Value} {S : PLB} (h : PairsO base w v S) (hb : Below w.heap.size w w') : PairsO base w' v S := by
  obtain ⟨xs, h1, h2⟩ := h
  refine ⟨xs, own_ext h1 hb, h2.1, fun i hi => ?_⟩
  obtain ⟨kv, vv, e, g1, g2⟩ := h2.2 i hi
  exact ⟨kv, vv, e, ⟨g1.1.ext hb, g1.2⟩, own_ext g2 hb⟩
theorem MapV.drewN {α : Type} {w : World} {b N : Nat} {T : PL (Value × α)} (h : MapV w b T N) (q : Nat) : MapV (w.drewN q) b T N := h.ext (below_drewN (Below.refl _ _) q)
/-- 'v, ok := m[k]' -/
theorem look2_some {α : Type} {w : World} {b N : Nat} {T : PL (Value × α)} {t e : TypeId} (h : MapV w b T N) (ht : Try.prog.underlying t = some (.map 9 e)) {z : Value} (hz : (zeroValue e).run Try.prog w = .ok z w) {k : Ky} (hk : k.length ≤ maxLen) {u : Value} {a : α} (hg : getP T k = some (u, a)) :
    (Instr.lookup t (.map (some b)) (.string ⟨k.toArray⟩) true).run Try.prog w = .ok (.tuple #[u, .bool true]) w := by
  obtain ⟨es, clock, hb, F, _, hD⟩ := h
  rcases Maps.fit_look true lawS ht hz hb F (key_of hk) with ⟨_, _, hat⟩ | ⟨e0, y, _, _, hrun, hRv, hat, _⟩
  · have h1 := hat (.map [])
    rw [← hD, enc_at hg] at h1
    cases h1
  · have h1 := hat (.map [])
    rw [← hD, enc_at hg] at h1
    have hy := Option.some.inj hRv
    rw [← hy] at h1
    simp only [DataW.held.injEq] at h1
    rw [hrun, ← h1]
    simp only [if_true]
theorem look2_none {α : Type} {w : World} {b N : Nat} {T : PL (Value × α)} {t e : TypeId} (h : MapV w b T N) (ht : Try.prog.underlying t = some (.map 9 e)) {z : Value} (hz : (zeroValue e).run Try.prog w = .ok z w) {k : Ky} (hk : k.length ≤ maxLen) (hg : getP T k = none) :
    (Instr.lookup t (.map (some b)) (.string ⟨k.toArray⟩) true).run Try.prog w = .ok (.tuple #[z, .bool false]) w := by
  obtain ⟨es, clock, hb, F, _, hD⟩ := h
  rcases Maps.fit_look true lawS ht hz hb F (key_of hk) with ⟨hrun, _, _⟩ | ⟨e0, y, _, _, _, hRv, hat, _⟩
  · rw [hrun]
    simp only [if_true]
  · have h1 := hat (.map [])
    rw [← hD, enc_none hg] at h1
    have hy := Option.some.inj hRv
    rw [← hy] at h1
    cases h1
/-- maps.Clone of bytes -/
theorem CloneM_any {T : PL (Value × List UInt8)} {b N : Nat} {w : World} (h : MapV w b T N) :
    Calls Try.prog 50 #[.map (some b)] w fun e w' => e = .returned (.map (some w.heap.size)) ∧ MapV w' w.heap.size T N ∧ Below w.heap.size w w' := by
  have := AnyW.maps_Clone_owns Try.clone50 9 RV b N (encM T) w h
  change Calls Try.prog 50 _ _ _ at this
  exact this.mono fun e w' ⟨h1, h2, _, h4⟩ => ⟨h1, h2, h4⟩
set_option maxRecDepth 100000 in
set_option maxHeartbeats 4000000 in
theorem pairs_any {o : Own} {w : World} {bm N : Nat} {S : PLB} (h : KvMap o w bm S N) (hS : FitS S) :
    Calls Try.prog 39 #[.map (some bm)] w fun e w' => ∃ v, e = .returned v ∧ PairsO w.heap.size w' v S ∧ Below w.heap.size w w' := by
  obtain ⟨⟨T, hM, hTS, hL⟩, _⟩ := h
  have hTP := pairsTy
  have hTR : Rises T := rises_of_map (f := (·.2)) (by rw [hTS]; exact hS.rises)
  have hlen : T.length = S.length := by rw [← hTS]; unfold mapP; rw [List.length_map]
  have hTN : T.length ≤ 1900 := by rw [hlen]; exact hS.len
  have hEA := Lib.hid (fun (e : Ky × (Value × List UInt8)) (he : e ∈ T) => hS.each (e.1, e.2.2) (by rw [← hTS]; exact List.mem_map.2 ⟨e, he, rfl⟩))
  have HL := Lib.hid hL
  have HTS := Lib.hid hTS
  have HLEN := Lib.hid hlen
  have CK := Lib.hid (fun mb W => callsIn_wide.1 (Try.maps_Keys_54 mb W))
  have CS := Lib.hid (callsIn_wide.1 (Try.slices_Sorted_keys_51_54 bm N (encM T) RV w hM (by rw [enc_size]; unfold maxLen; omega) (by rw [enc_size]; omega)))
  have hz : w.heap.size < (w.alloc (.cells #[.map (some bm)] 69)).heap.size := by simp
  have HMB := Lib.hid (fun (w' : World) (hb : Below w.heap.size w w') => hM.ext hb)
  clear hL hTS hlen hM
  go_enter Try.func39, Try.ntmps39
  go_wp2_with (first
    | (go_at_call 54; refine (CK.out _ _).mono ?_; rintro e w1 ⟨rfl, rfl⟩)
    | (go_at_call 51; refine CS.out.mono ?_; rintro e w4 ⟨v4, ss, rfl, hp2, ho2, _, hb2⟩; have ho4 := sorted_keys hTR hp2 ho2; obtain ⟨A4, c4, rfl⟩ := own_sl ho4)
    | fail)
  have hB4 : Below w.heap.size w w4 := ((Below.refl _ w).alloc (Nat.le_refl _) _).trans (hb2.mono (Nat.le_of_lt hz))
  clear hb2 hz hp2 ho2
  go_loopw [3, 10] (fun vo iv wr => ∃ (k : Nat) (co : List Value), k ≤ T.length ∧ iv = .int .i64 k ∧ wr.ownsRow w4.heap.size 51 2 vo k co ∧ Stays wr (Rows2 vo (.slice none 0 0)) (fun w' => RowC 2 (rPairO w4.heap.size) w' co (S.take k)) ∧ Below w4.heap.size w4 wr) (fun _ iv _ => T.length - (RowKit.intOf iv).toNat)
  case atStart => exact ⟨0, [], Nat.zero_le _, rfl, World.ownsRow_nil _ _ _ _, fun w' _ _ => RowC.nil _ _ _, Below.refl _ _⟩
  case round =>
    obtain ⟨k, co, hk, rfl, hco, hso, hBr⟩ := hrel
    have HSO := Lib.hid hso
    clear hso
    by_cases hlt : k < T.length
    · obtain ⟨h4, rfl⟩ := own_at ho4 (by omega)
      obtain ⟨⟨key, u, val⟩, hp⟩ : ∃ p, T[k]? = some p := ⟨_, List.getElem?_eq_getElem hlt⟩
      have hmem := List.mem_of_getElem? hp
      have hget : getP T key = some (u, val) := getP_at hTR hmem
      have hlo := HL.out _ hmem
      obtain ⟨hkl, hvl⟩ := hEA.out _ hmem
      simp only at hlo hkl hvl
      have hSk : S.take (k + 1) = S.take k ++ [(key, val)] := by
        have h1 : S[k]? = some (key, val) := by rw [← HTS.out]; unfold mapP; rw [List.getElem?_map, hp]; rfl
        obtain ⟨h2, h3⟩ := List.getElem?_eq_some_iff.1 h1
        rw [List.take_succ_eq_append_getElem h2, h3]
      have hok := own_ext ho4 hBr
      have hc1 := hok.cellAt k (by omega)
      rw [List.getElem?_map, hp] at hc1
      simp only [Option.map_some, strV] at hc1
      have hkm : key.length ≤ maxLen := by unfold maxLen; omega
      have HKM := Lib.hid hkm
      have HSK := Lib.hid hSk
      have HBY := Lib.hid (fun (w' : World) (hb : Below w4.heap.size w4 w') => hlo.bytes.ext (hB4.trans (hb.mono hB4.size)))
      have HLK := Lib.hid (fun (w' : World) (hb : Below w4.heap.size w4 w') => (HMB.out _ (hB4.trans (hb.mono hB4.size))).look mapTy (zBytesV w') hkm hget)
      have hW := hBr.size
      have f2 : decide ((k : Int) < T.length) = true := decide_eq_true (by omega)
      have b3 : (0 : Int) ≤ k := by omega
      have b4 : (k : Int) < T.length := by omega
      clear hp hmem hget hlo hkm hSk
      go_wp2_with (first
        | ((with_reducible refine gd_convert ?_); refine wpList_str_bytes rfl (.tmp 15) rfl rfl HKM.out ?_; intro c5 w5 hk5 hb5 hl5; have hB5 := below_step hBr hb5; have q5 := HLK.out _ hB5)
        | (go_at_call 35; refine (Clone_any _ val _ (HBY.out _ hB5) (by omega)).mono ?_; rintro e w6 ⟨v6, rfl, ho6, hb6⟩; obtain ⟨A6, c6, rfl⟩ := own_sl ho6; have hB6 := below_step hB5 hb6)
        | (refine wpList_row_one rfl (.tmp 21) rfl hTP (by decide) (cs := #[.slice (some ⟨wr.heap.size, 0, none⟩) key.length c5, .slice A6 val.length c6]) rfl rfl ?_; intro w7 hx7 hb7 hl7; have hbr := below_step (below_step hb5 hb6) hb7; have hB7 := below_step hBr hbr; have hco7 := own_ext hco hbr)
        | (at_builtin; refine wpList_append_rd _ rfl (.tmp 14) (.tmp 22) _ rfl w4.heap.size _ _ 2 48 hTP _ _ _ rfl hco7 (some ⟨w6.heap.size, 0, none⟩) 1 1 [.slice (some ⟨wr.heap.size, 0, none⟩) key.length c5, .slice A6 val.length c6] rfl rfl hx7.rd (by intro u hu; simp only [List.mem_cons, List.not_mem_nil, or_false] at hu; rcases hu with rfl | rfl <;> rfl) (by unfold maxLen; omega) (by omega) hB7.size ?_; intro vo8 w8 hco8 hg8 hat8)
        | fail)
      have hB8 := below_own hB7 hco7 (Nat.le_refl _) hg8 hB7.size
      have hnil := World.ownsRow_nil wr w4.heap.size 5 1
      have sl := stay_app (c := .slice none 0 0) hco hbr hg8 hat8 (bad := Rows2 _ (.slice none 0 0)) (bad1 := Rows2 vo8 (.slice none 0 0)) (fun _ h => h) (fun _ h => h) HSO.out
      have ho60 : w7.ownsRow wr.heap.size 5 1 (.slice A6 val.length c6) val.length (bv val) := own_ext (own_base ho6 hb5.size) hb7
      have sv := stay_new hco hnil hbr hg8 hat8 (bad1 := Rows2 vo8 (.slice none 0 0)) (fun _ h => h) ho60
      have hlo : ∀ x, Value.ownBlock _ = some x → x < wr.heap.size := fun x hx => (hco.lt x hx).2
      have hk8 := ((hk5.ext hb6).ext hb7).grownB hg8 (fun ad e => by injection e with e; subst e; intro e'; have := hlo _ e'.symm; simp only at this; omega)
      have sk := Stays.bytes (bad := Rows2 vo8 (.slice none 0 0)) hk8 (fun ad e hb => by
        injection e with e
        subst e
        rcases hb with hb | hb
        · rcases hat8 with e1 | e1
          · have := hlo _ (e1 ▸ hb)
            simp only at this
            omega
          · rw [e1] at hb
            injection hb with hb
            have := hb5.size
            have := hb6.size
            simp only at hb
            omega
        · cases hb)
      have sl2 := ((sl.and sk).and sv).imp (Q := fun w' => RowC 2 (rPairO w4.heap.size) w' (co ++ [.slice (some ⟨wr.heap.size, 0, none⟩) key.length c5, .slice A6 val.length c6]) (S.take (k + 1))) fun w' h => by
        rw [HSK.out]
        exact h.1.1.more rfl ⟨_, _, rfl, ⟨h.1.2, fun ad n c e => by injection e with e; injection e with e; subst e; exact hBr.size⟩, own_base h.2 hBr.size⟩
      go_roundw
      case rel => exact ⟨k + 1, _, by omega, by go_num, by simpa using hco8, sl2, hB8⟩
      case measure => simp [RowKit.intOf]; omega
    · obtain rfl : k = T.length := by omega
      have f2 : decide ((T.length : Int) < T.length) = false := decide_eq_false (by omega)
      have hfin := HSO.out.now
      rw [show S.take T.length = S by rw [HLEN.out, List.take_length]] at hfin
      go_wp2
      go_ret
      refine ⟨_, rfl, ⟨co, ?_, hfin.1, fun i hi => ?_⟩, hB4.trans (hBr.mono hB4.size)⟩
      · rw [← HLEN.out]; exact own_base hco hB4.size
      · obtain ⟨kv, vv, e, g1, g2⟩ := hfin.2 i hi
        exact ⟨kv, vv, e, ⟨g1.1, fun ad n c e => Nat.le_trans hB4.size (g1.2 ad n c e)⟩, own_base g2 hB4.size⟩
section
variable {j q p : Nat} {S : PLB} {clean dead : Bool} {o : Own} {N : Nat} {w : World}
set_option maxRecDepth 100000 in
set_option maxHeartbeats 1000000 in
theorem Pairs_any (h : KvAt j q p S clean dead o N w) :
    Calls Try.prog 22 #[.pointer (some ⟨q, 0, none⟩)] w fun e w' => ∃ v, e = .returned v ∧ PairsO w.heap.size w' v S ∧ Below w.heap.size w w' := by
  obtain ⟨⟨bm, hx, hm⟩, _, hf⟩ := h
  have CP := Lib.hid (pairs_any hm hf)
  have y1 := hx.cellv (i := 1) rfl
  clear hm
  go_enter Try.func22, Try.ntmps22
  go_wp2_with (first
    | (go_at_call 39; (with_reducible refine CP.out.mono ?_); rintro e w1 ⟨v, rfl, h1, hb1⟩)
    | fail)
  go_ret
  exact ⟨v, rfl, h1, hb1⟩
/-- what Get tells -/
def getB (S : PLB) (k : Ky) : List UInt8 := (getP S k).getD []
set_option maxRecDepth 100000 in
set_option maxHeartbeats 1000000 in
theorem Get_any (h : KvAt j q p S clean dead o N w) (kv : Value) (key : Ky) (hk : Bytes w kv key) :
    Calls Try.prog 14 #[.pointer (some ⟨q, 0, none⟩), kv] w fun e w' => ∃ v, e = .returned (.tuple #[v, .bool (getP S key).isSome]) ∧ w'.ownsRow w.heap.size 5 1 v (getB S key).length (bv (getB S key)) ∧ Below w.heap.size w w' := by
  obtain ⟨⟨bm, hx, ⟨⟨T, hM, hTS, hL⟩, _⟩⟩, _, hf⟩ := h
  have hkm := Bytes_max hk
  have hg : getP S key = (getP T key).map (·.2) := by rw [← hTS]; exact getP_map _ _ _
  have y1 := hx.cellv (i := 1) rfl
  have HK := Lib.hid hk
  obtain ⟨Ak, nk, ck, rfl, _⟩ := id hk
  have q3 := fun m => run_str (P := Try.prog) (src := 22) (dst := 9) (Bytes_drewN hk m) Try.underlying22 Try.underlying5 Try.underlying9
  cases hgt : getP T key with
  | none =>
    rw [hgt] at hg
    have HG := Lib.hid hg
    have q4 := fun m => look2_none (MapV.drewN hM m) mapTy (zBytesV (w.drewN m)) hkm hgt
    clear hk hM hL hTS hg hx
    go_enter Try.func14, Try.ntmps14
    go_upto_region 1 with (fail)
    go_quiet (fail)
    have hb1 := below_drewN (Below.refl w.heap.size w) nq
    generalize w.drewN nq = w1 at hb1 ⊢
    clear q3 q4 y1
    go_wp2_with (first
      | (go_at_call 35; refine (Clone_any _ [] _ (Bytes.nil _) (by simp)).mono ?_; rintro e w2 ⟨v2, rfl, ho2, hb2⟩)
      | fail)
    go_ret2
    refine ⟨v2, by rw [HG.out]; rfl, ?_, below_step hb1 hb2⟩
    unfold getB
    rw [HG.out]
    exact own_base ho2 hb1.size
  | some e0 =>
    obtain ⟨u, val⟩ := e0
    rw [hgt] at hg
    have HG := Lib.hid hg
    have hlo := hL _ (getP_mem hgt)
    simp only at hlo
    have HV := Lib.hid hlo.bytes
    have hvl : val.length ≤ 600 := (hf.each (key, val) (by rw [← hTS]; exact List.mem_map.2 ⟨_, getP_mem hgt, rfl⟩)).2
    have q4 := fun m => look2_some (MapV.drewN hM m) mapTy (zBytesV (w.drewN m)) hkm hgt
    clear hk hM hL hTS hg hx hlo
    go_enter Try.func14, Try.ntmps14
    go_upto_region 1 with (fail)
    go_quiet (fail)
    have hb1 := below_drewN (Below.refl w.heap.size w) nq
    have hv1 := HV.out.ext hb1
    generalize w.drewN nq = w1 at hb1 hv1 ⊢
    clear q3 q4 y1
    go_wp2_with (first
      | (go_at_call 35; refine (Clone_any _ val _ hv1 (by omega)).mono ?_; rintro e w2 ⟨v2, rfl, ho2, hb2⟩)
      | fail)
    go_ret2
    refine ⟨v2, by rw [HG.out]; rfl, ?_, below_step hb1 hb2⟩
    unfold getB
    rw [HG.out]
    exact own_base ho2 hb1.size
end
end Go.Mun
