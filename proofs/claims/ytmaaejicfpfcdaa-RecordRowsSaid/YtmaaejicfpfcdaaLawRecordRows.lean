/- 'RecordRows' answers true at every input, and leaves what it was given. No condition. -/
import Derived.Test.YtmaaejicfpfcdaaRecRow
import Derived.Test.YtmaaejicfpfcdaaRecAlive
import Derived.Test.YtmaaejicfpfcdaaRecSame
import Derived.Test.YtmaaejicfpfcdaaLaw
import Derived.Test.YtmaaejicfpfcdaaRegion
import Derived.Test.YtmaaejicfpfcdaaRows
import Derived.Deep.Cut
namespace Go.Proofs.Ytmaaejicfpfcdaa.RecordRows
open Go Go.RowKit Go.Mun Go.Proofs

/-- two rows of the call's own that are not one -/
def Apart (a b : Value) : Prop := ∀ g, a.ownBlock = some g → b.ownBlock ≠ some g
theorem Apart.nil (b : Value) : Apart (.slice none 0 0) b := fun g h => by cases h
theorem far_row {w w' : World} {base : Nat} {e : TypeId} {size n : Nat} {a b : Value} {ys : List Value} (hb : w.ownsRow base e size b n ys) (hg : w.grownBy w' a.ownBlock) (h : Apart a b) : w'.ownsRow base e size b n ys :=
  hb.kept hg (by
    cases hbb : b.ownBlock with
    | none => exact .inl rfl
    | some g => exact .inr fun e' => h g e'.symm hbb)
theorem apart_new {w : World} {base : Nat} {e : TypeId} {size n : Nat} {a a' b : Value} {ys : List Value} (hb : w.ownsRow base e size b n ys) (h : Apart a b) (hat : a'.ownBlock = a.ownBlock ∨ a'.ownBlock = some w.heap.size) : Apart a' b := by
  intro g hg hb'
  rcases hat with h1 | h1
  · exact h g (h1 ▸ hg) hb'
  · rw [h1] at hg
    injection hg with hg
    have := (hb.lt g hb').2
    omega
theorem Apart.symm {a b : Value} (h : Apart a b) : Apart b a := fun g h1 h2 => h g h2 h1
theorem own_ne {w : World} {base : Nat} {e : TypeId} {size n : Nat} {a : Value} {ys : List Value} (h : w.ownsRow base e size a n ys) : a.ownBlock ≠ some w.heap.size := fun e' => by
  have := (h.lt _ e').2
  omega
theorem new_ne {w : World} {g : Nat} {a a' : Value} (h : a.ownBlock ≠ some g) (hat : a'.ownBlock = a.ownBlock ∨ a'.ownBlock = some w.heap.size) (hlt : g < w.heap.size) : a'.ownBlock ≠ some g := by
  rcases hat with e | e
  · rw [e]; exact h
  · rw [e]; intro e'; injection e' with e'; omega
theorem row_put {w w' : World} {base g : Nat} {e : TypeId} {size n : Nat} {b : Value} {ys : List Value} (hb : w.ownsRow base e size b n ys) (hg : w.grownBy w' (some g)) (h : b.ownBlock ≠ some g) : w'.ownsRow base e size b n ys := hb.kept hg (.inr h)
theorem row_b {w : World} {B : Nat} {e : TypeId} {v : Value} {L : List RItem} {x : RItem} (h : w.ownsRow B e 1 v ((allB L).length + x.1.bytes.length) (bv (allB L ++ x.1.bytes))) : w.ownsRow B e 1 v (allB (L ++ [x])).length (bv (allB (L ++ [x]))) := by
  rw [allB_append, allB_one, List.length_append]; exact h
theorem row_c {w : World} {B : Nat} {e : TypeId} {v : Value} {L : List RItem} {x : RItem} (h : w.ownsRow B e 5 v (L.length + 1) (allC L ++ itC x)) : w.ownsRow B e 5 v (L ++ [x]).length (allC (L ++ [x])) := by
  rw [allC_append, allC_one, List.length_append]; exact h
theorem allB_more {L : List RItem} {x : RItem} {a : Nat} (h : (allB L).length ≤ a) (hx : x.1.bytes.length ≤ 500) : (allB (L ++ [x])).length ≤ a + 500 := by
  rw [allB_append, allB_one, List.length_append]; omega
theorem i64_and1023 (x : Int) : bits .and .i64 x 1023 = x % 1024 := i64_and_mask x 10 1023 (by omega) rfl
theorem int_cell {n : Nat} {vs : List Value} {ls : List Int} {w : World} (hvl : vs.length = n) (hl : ls.length = n) (hb : ∀ i (hi : i < ls.length), rInt .i64 w (chunk vs 1 i) ls[i]) {k : Nat} (hk : k < n) :
    ∃ x, vs[k]? = some (.int .i64 x) := by
  have := hb k (by omega)
  have hlt : k < vs.length := by omega
  refine ⟨ls[k], ?_⟩
  have h := this.1
  have hc : chunk vs 1 k = [vs[k]] := by
    unfold chunk
    rw [Nat.mul_one]
    apply List.ext_getElem?
    intro j
    rcases j with _ | j
    · simp [hlt]
    · simp; omega
  rw [hc] at h
  injection h with h _
  rw [List.getElem?_eq_getElem hlt, h]
theorem ok_more {w : World} {L : List RItem} {x : RItem} (h : ∀ y ∈ L, ItOk w y) (hx : ItOk w x) : ∀ y ∈ L ++ [x], ItOk w y := fun y hy => by
  rcases List.mem_append.1 hy with h1 | h1
  · exact h y h1
  · rw [List.mem_singleton.1 h1]; exact hx
/-- a block that is no row -/
theorem far_blk {w w' : World} {g : Nat} {t : TypeId} {cs : Array Value} {a : Value} (hb : Blk w g t cs) (hg : w.grownBy w' a.ownBlock) (h : a.ownBlock ≠ some g) : Blk w' g t cs := hb.grown hg (fun e => h e.symm)


set_option maxRecDepth 100000 in
set_option maxHeartbeats 4000000 in
theorem early (n c n2 c2 : Nat) (A A2 : Option Addr) (w : World) (_hc : n ≤ c) (_hc2 : n2 ≤ c2) (_hcm : c ≤ maxLen) (_hcm2 : c2 ≤ maxLen) (h : 40 < n ∨ 40 < n2) :
    Calls Try.prog 9 #[.slice A n c, .slice A2 n2 c2] w fun e w' => e = .returned (.bool true) ∧ Below w.heap.size w w' := by
  unfold maxLen at _hcm _hcm2
  have CA := Lib.hid alive21
  by_cases h1 : 40 < n
  · have d1 : decide ((40 : Int) < n) = true := decide_eq_true (by omega)
    clear h
    go_enter Try.func9, Try.ntmps9
    go_wp2_with (first
      | (go_at_call 19; refine (CA.out _).mono ?_; rintro e w1 ⟨rfl, hb1⟩)
      | fail)
    go_ret
    exact ⟨rfl, hb1⟩
  · have d1 : decide ((40 : Int) < n) = false := decide_eq_false (by omega)
    have d2 : decide ((40 : Int) < n2) = true := decide_eq_true (by omega)
    clear h
    go_enter Try.func9, Try.ntmps9
    go_wp2_with (first
      | (go_at_call 19; refine (CA.out _).mono ?_; rintro e w1 ⟨rfl, hb1⟩)
      | fail)
    go_ret
    exact ⟨rfl, hb1⟩

theorem below_drew {B : Nat} {w0 w : World} (h : Below B w0 w) : Below B w0 w.drew := h.drew
/-- what each operation of the region writes -/
def S24 (gW n c j : Nat) (C1 C2 : Array Value) : Nat → Value → World → Prop
  | 0, v, _ => v = .int .i64 0
  | 1, v, _ => v = .int .i64 0
  | 2, v, _ => v = .bool false
  | 3, v, _ => v = .bool false
  | 4, v, _ => v = .agg C1
  | 5, v, _ => v = .slice (some ⟨gW, 0, none⟩) n c
  | 6, v, _ => v = .int .i64 (j : Nat)
  | 7, v, _ => v = .pointer (some ⟨gW, j * 5, none⟩)
  | 8, v, _ => v = .agg C2
  | 9, v, _ => v = .bool true
  | 10, v, _ => v = .bool false
  | _, v, _ => v = .bool false
theorem S24_stays (gW n c j : Nat) (C1 C2 : Array Value) : ∀ i v (wa wb : World), Below wa.heap.size wa wb → S24 gW n c j C1 C2 i v wa → S24 gW n c j C1 C2 i v wb
  | 0, _, _, _, _, h => h
  | 1, _, _, _, _, h => h
  | 2, _, _, _, _, h => h
  | 3, _, _, _, _, h => h
  | 4, _, _, _, _, h => h
  | 5, _, _, _, _, h => h
  | 6, _, _, _, _, h => h
  | 7, _, _, _, _, h => h
  | 8, _, _, _, _, h => h
  | 9, _, _, _, _, h => h
  | 10, _, _, _, _, h => h
  | _ + 11, _, _, _, _, h => h
set_option maxRecDepth 100000 in
set_option maxHeartbeats 8000000 in
theorem walk (n c n2 c2 : Nat) (A A2 : Option Addr) (xs ys : List Value) (rs : List Rec) (w : World) (hnc : n ≤ c) (_hnc2 : n2 ≤ c2) (_hcm : c ≤ maxLen) (_hcm2 : c2 ≤ maxLen) (hn : n ≤ 40) (hn2 : n2 ≤ 40)
    (hr : Rd w A xs) (hl : rs.length = n) (hx : xs.length = n * 3) (hb : ∀ i (h : i < rs.length), rOp w (chunk xs 3 i) rs[i])
    (hr2 : Rd w A2 ys) (hi2 : ∀ k, k < n2 → ∃ x, ys[k]? = some (.int .i64 x)) :
    Calls Try.prog 9 #[.slice A n c, .slice A2 n2 c2] w fun e w' => e = .returned (.bool true) ∧ Below w.heap.size w w' := by
  unfold maxLen at _hcm _hcm2
  have HX := Lib.hid (fun w' (hB : Below w.heap.size w w') k (hk : k < n) => op_at (hr.ext hB) hl hx hb hk)
  have HI := Lib.hid hi2
  have HR2 := Lib.hid (fun w' (hB : Below w.heap.size w w') => hr2.ext hB)
  clear hb hr hr2 hi2 hl hx
  have CA := Lib.hid alive21
  have hT := bytesTyR
  have hTR := recsTy
  have hR := recTy
  have zR := zRec_info
  have d1 : decide ((40 : Int) < n) = false := decide_eq_false (by omega)
  have d2 : decide ((40 : Int) < n2) = false := decide_eq_false (by omega)
  go_enter Try.func9, Try.ntmps9
  go_wp2_with (first
    | (go_at_call 19; refine (CA.out _).mono ?_; rintro e w1 ⟨rfl, hb1⟩)
    | fail)
  go_loopw [6, 7, 8] (fun va vw i wr => ∃ (k : Nat) (L : List RItem), k ≤ n ∧ i = .int .i64 k ∧ Below w.heap.size w wr ∧ (∀ x ∈ L, ItOk w x) ∧ L.length ≤ 2 * k ∧
      wr.ownsRow w.heap.size 5 1 va (allB L).length (bv (allB L)) ∧ wr.ownsRow w.heap.size 36 5 vw L.length (allC L) ∧ Apart va vw) (fun _ _ i _ => n - (intOf i).toNat)
  case atStart => exact ⟨0, [], Nat.zero_le _, rfl, hb1, (fun x hx => by simp at hx), Nat.zero_le _, own_nil _ _, World.ownsRow_nil _ _ _ _, Apart.nil _⟩
  case round =>
    obtain ⟨k, L, hk, rfl, hBr, hok, hLk, hoa, how, hap⟩ := hrel
    by_cases hlt : k < n
    · obtain ⟨ad, ⟨kind, del, key, value, nn⟩, kv, vv, rfl, q0, q1, q2, hrk, hrn, hbk, hbv⟩ := HX.out wr hBr k hlt
      simp only at hrk hrn hbk hbv q0
      subst hrk hrn
      obtain ⟨AK, m, cK, rfl, k1, k2, k3, k4⟩ := id hbk
      obtain ⟨AV, m', cV, rfl, v1, v2, v3, v4⟩ := id hbv
      clear k4 v4
      unfold maxLen at k3 v3
      by_cases c1 : 200 < m
      · have f1 : decide ((200 : Int) < m) = true := decide_eq_true (by omega)
        clear k1 v1
        go_wp2
        go_ret
        exact ⟨rfl, hBr⟩
      have f1 : decide ((200 : Int) < m) = false := decide_eq_false (by omega)
      by_cases c2 : 200 < m'
      · have f2 : decide ((200 : Int) < m') = true := decide_eq_true (by omega)
        clear k1 v1
        go_wp2
        go_ret
        exact ⟨rfl, hBr⟩
      have f2 : decide ((200 : Int) < m') = false := decide_eq_false (by omega)
      have HE := Lib.hid (change_ok (del := del) (key := key) (value := value) (by omega) (by omega))
      have HKB := Lib.hid hbk
      have HVB := Lib.hid hbv
      have HIt := Lib.hid (show ItOk w ((⟨1, del, key, value, 0⟩ : Rec), (Value.slice AK m cK), (Value.slice AV m' cV)) from ⟨HE.out.1, hbk, hbv, HE.out.2⟩)
      have HBD := Lib.hid (allB_bd hok)
      have hbd : (allB L).length ≤ 40000 := by have := HBD.out; omega
      have hL80 : L.length ≤ 78 := by omega
      have tkP : True := trivial
      have tkA : True := trivial
      have tkC : True := trivial
      have tkL : True := trivial
      have HOK := Lib.hid hok
      clear k1 v1 hbk hbv hok
      by_cases c3 : k < n2
      · have f3 : decide ((k : Int) < n2) = true := decide_eq_true (by omega)
        obtain ⟨y, hy⟩ := HI.out k c3
        obtain ⟨ad2, rfl, _⟩ := (HR2.out wr hBr) k _ hy
        obtain ⟨z, hz⟩ : ∃ z : Nat, y % 1024 = z := ⟨(y % 1024).toNat, by omega⟩
        have hzb : z < 1024 := by omega
        have ez : bits .and .i64 y 1023 = (z : Int) := by rw [i64_and1023]; exact hz
        have HE2 := Lib.hid (end_ok hzb)
        have HIt2 := Lib.hid (show ItOk w ((⟨2, false, [], [], z⟩ : Rec), (Value.slice none 0 0), (Value.slice none 0 0)) from ⟨HE2.out.1, Bytes.nil _, Bytes.nil _, HE2.out.2⟩)
        have HY := Lib.hid hy
        clear hz hy
        go_wp2_with (first
          | ((with_reducible refine gd_alloc ?_); refine wpList_alloc_blk rfl 36 rfl zR ?_; intro w3 hx3 hb3 hl3; have hz3 := hb3.size; have hgA := own_ne hoa; have hgW := own_ne how)
          | ((with_reducible refine gd_store ?_); refine wpList_store_all rfl 36 (.tmp 9) (.tmp 59) rfl #[.int .i64 1, .bool del, .slice AK m cK, .slice AV m' cV, .int .i64 0] hx3 hR rfl rfl rfl rfl ?_; intro w4 hx4 hg4; have hb4 := below_blk hb3 hb3.size hg4 (Nat.le_refl _); have hB4 := below_step hBr hb4; have hoa4 := own_ext hoa hb4; have how4 := own_ext how hb4)
          | ((with_reducible refine gd_load ?_); have _t := tkL; refine wpList_load_blk rfl 36 (.tmp 9) rfl hx4 hR rfl ?_; clear tkL)
          | (go_at_call 20; have _t := tkP; refine (Pack_ok ⟨1, del, key, value, 0⟩ _ _ _ (HKB.out.ext hB4) (HVB.out.ext hB4) (by simp) (by simp) HE.out.1).mono ?_; clear tkP; rintro e w5 ⟨v5, rfl, hb5, ho5⟩; have hB5 := below_step hB4 hb5; have hoa5 := own_ext hoa4 hb5; have how5 := own_ext how4 hb5; have hx5 := hx4.ext hb5; have hz5 := hb5.size; have hz4 := hx4.lt)
          | (at_builtin; have _t := tkA; refine wpList_append_bytes rfl (.tmp 65) (.tmp 66) _ rfl w.heap.size hT rfl hoa5 rfl (Bytes.own ho5) (by have := HE.out.2; omega) hB5.size ?_; clear tkA; intro va6 w6 hoa6 hga6 hata6; have how6 := far_row how5 hga6 hap; have hx6 := far_blk hx5 hga6 hgA; have hap6 := apart_new how5 hap hata6; have hgA6 := new_ne hgA hata6 hx5.lt; have hB6 := below_own hB5 hoa5 (Nat.le_refl _) hga6 hB5.size; have hz6 := hga6.size)
          | ((with_reducible refine gd_load ?_); refine wpList_load_blk rfl 36 (.tmp 9) rfl hx6 hR rfl ?_)
          | (refine wpList_row_one rfl (.tmp 69) rfl hTR (by decide) (cs := #[.int .i64 1, .bool del, .slice AK m cK, .slice AV m' cV, .int .i64 0]) rfl rfl ?_; intro w7 hx7 hb7 hl7; have hoa7 := own_ext hoa6 hb7; have how7 := own_ext how6 hb7; have hxx7 := hx6.ext hb7; have hB7 := below_step hB6 hb7)
          | (at_builtin; have _t := tkC; refine wpList_append_rd _ rfl (.tmp 68) (.tmp 70) _ rfl w.heap.size _ _ 5 72 hTR _ L.length (allC L) rfl how7 (some ⟨w6.heap.size, 0, none⟩) 1 1 (itC (⟨1, del, key, value, 0⟩, .slice AK m cK, .slice AV m' cV)) rfl rfl hx7.rd HIt.out.one (by unfold maxLen; omega) (by omega) hB7.size ?_; clear tkC; intro vw8 w8 how8 hgw8 hatw8; have hoa8 := far_row hoa7 hgw8 hap6.symm; have hx8 := far_blk hxx7 hgw8 hgW; have hap8 := (apart_new hoa7 hap6.symm hatw8).symm; have hgW8 := new_ne hgW hatw8 hxx7.lt; replace hoa8 := row_b (x := (⟨1, del, key, value, 0⟩, .slice AK m cK, .slice AV m' cV)) hoa8; replace how8 := row_c (x := (⟨1, del, key, value, 0⟩, .slice AK m cK, .slice AV m' cV)) how8; have hz7 := hb7.size; have hz8 := hgw8.size; have hB8 := below_own hB7 how7 (Nat.le_refl _) hgw8 hB7.size; have hbl8 := allB_more hbd HIt.out.len; have hn8 := (HR2.out _ hB8).cells k _ HY.out)
          | ((with_reducible refine gd_store ?_); refine wpList_store_all rfl 36 (.tmp 9) (.tmp 81) rfl #[.int .i64 2, .bool false, .slice none 0 0, .slice none 0 0, .int .i64 z] hx8 hR rfl rfl rfl rfl ?_; intro w9 hx9 hg9; have hB9 := below_blk hB8 hB8.size hg9 hBr.size; have hoa9 := row_put hoa8 hg9 hgA6; have how9 := row_put how8 hg9 hgW8)
          | ((with_reducible refine gd_load ?_); refine wpList_load_blk rfl 36 (.tmp 9) rfl hx9 hR rfl ?_)
          | (go_at_call 20; refine (Pack_ok ⟨2, false, [], [], z⟩ _ _ _ (Bytes.nil _) (Bytes.nil _) (by simp only; omega) (by simp only; omega) HE2.out.1).mono ?_; rintro e w11 ⟨v11, rfl, hb11, ho11⟩; have hB11 := below_step hB9 hb11; have hoa11 := own_ext hoa9 hb11; have how11 := own_ext how9 hb11; have hx11 := hx9.ext hb11)
          | (at_builtin; refine wpList_append_bytes rfl (.tmp 87) (.tmp 88) _ rfl w.heap.size hT rfl hoa11 rfl (Bytes.own ho11) (by have := HE2.out.2; omega) hB11.size ?_; intro va12 w12 hoa12 hga12 hata12; have how12 := far_row how11 hga12 hap8; have hx12 := far_blk hx11 hga12 hgA6; have hap12 := apart_new how11 hap8 hata12; have hB12 := below_own hB11 hoa11 (Nat.le_refl _) hga12 hB11.size)
          | ((with_reducible refine gd_load ?_); refine wpList_load_blk rfl 36 (.tmp 9) rfl hx12 hR rfl ?_)
          | (refine wpList_row_one rfl (.tmp 91) rfl hTR (by decide) (cs := #[.int .i64 2, .bool false, .slice none 0 0, .slice none 0 0, .int .i64 z]) rfl rfl ?_; intro w13 hx13 hb13 hl13; have hoa13 := own_ext hoa12 hb13; have how13 := own_ext how12 hb13; have hB13 := below_step hB12 hb13)
          | (at_builtin; refine wpList_append_rd _ rfl (.tmp 90) (.tmp 92) _ rfl w.heap.size _ _ 5 72 hTR _ _ _ rfl how13 (some ⟨w12.heap.size, 0, none⟩) 1 1 (itC (⟨2, false, [], [], z⟩, .slice none 0 0, .slice none 0 0)) rfl rfl hx13.rd HIt2.out.one (by unfold maxLen; simp; omega) (by simp; omega) hB13.size ?_; intro vw14 w14 how14 hgw14 hatw14; have hoa14 := far_row hoa13 hgw14 hap12.symm; have hap14 := (apart_new hoa13 hap12.symm hatw14).symm; have hB14 := below_own hB13 how13 (Nat.le_refl _) hgw14 hB13.size; replace hoa14 := row_b (x := (⟨2, false, [], [], z⟩, .slice none 0 0, .slice none 0 0)) hoa14; replace how14 := row_c (x := (⟨2, false, [], [], z⟩, .slice none 0 0, .slice none 0 0)) how14)
          | fail)
        go_roundw
        case rel => exact ⟨k + 1, L ++ [(⟨1, del, key, value, 0⟩, .slice AK m cK, .slice AV m' cV)] ++ [(⟨2, false, [], [], z⟩, .slice none 0 0, .slice none 0 0)], by omega, by go_num, hB14, ok_more (ok_more HOK.out HIt.out) HIt2.out, by simp; omega, hoa14, how14, hap14⟩
        case measure => simp [intOf]; omega
      · have f3 : decide ((k : Int) < n2) = false := decide_eq_false (by omega)
        go_wp2_with (first
          | ((with_reducible refine gd_alloc ?_); refine wpList_alloc_blk rfl 36 rfl zR ?_; intro w3 hx3 hb3 hl3; have hz3 := hb3.size; have hgA := own_ne hoa; have hgW := own_ne how)
          | ((with_reducible refine gd_store ?_); refine wpList_store_all rfl 36 (.tmp 9) (.tmp 59) rfl #[.int .i64 1, .bool del, .slice AK m cK, .slice AV m' cV, .int .i64 0] hx3 hR rfl rfl rfl rfl ?_; intro w4 hx4 hg4; have hb4 := below_blk hb3 hb3.size hg4 (Nat.le_refl _); have hB4 := below_step hBr hb4; have hoa4 := own_ext hoa hb4; have how4 := own_ext how hb4)
          | ((with_reducible refine gd_load ?_); have _t := tkL; refine wpList_load_blk rfl 36 (.tmp 9) rfl hx4 hR rfl ?_; clear tkL)
          | (go_at_call 20; have _t := tkP; refine (Pack_ok ⟨1, del, key, value, 0⟩ _ _ _ (HKB.out.ext hB4) (HVB.out.ext hB4) (by simp) (by simp) HE.out.1).mono ?_; clear tkP; rintro e w5 ⟨v5, rfl, hb5, ho5⟩; have hB5 := below_step hB4 hb5; have hoa5 := own_ext hoa4 hb5; have how5 := own_ext how4 hb5; have hx5 := hx4.ext hb5; have hz5 := hb5.size; have hz4 := hx4.lt)
          | (at_builtin; have _t := tkA; refine wpList_append_bytes rfl (.tmp 65) (.tmp 66) _ rfl w.heap.size hT rfl hoa5 rfl (Bytes.own ho5) (by have := HE.out.2; omega) hB5.size ?_; clear tkA; intro va6 w6 hoa6 hga6 hata6; have how6 := far_row how5 hga6 hap; have hx6 := far_blk hx5 hga6 hgA; have hap6 := apart_new how5 hap hata6; have hgA6 := new_ne hgA hata6 hx5.lt; have hB6 := below_own hB5 hoa5 (Nat.le_refl _) hga6 hB5.size; have hz6 := hga6.size)
          | ((with_reducible refine gd_load ?_); refine wpList_load_blk rfl 36 (.tmp 9) rfl hx6 hR rfl ?_)
          | (refine wpList_row_one rfl (.tmp 69) rfl hTR (by decide) (cs := #[.int .i64 1, .bool del, .slice AK m cK, .slice AV m' cV, .int .i64 0]) rfl rfl ?_; intro w7 hx7 hb7 hl7; have hoa7 := own_ext hoa6 hb7; have how7 := own_ext how6 hb7; have hxx7 := hx6.ext hb7; have hB7 := below_step hB6 hb7)
          | (at_builtin; have _t := tkC; refine wpList_append_rd _ rfl (.tmp 68) (.tmp 70) _ rfl w.heap.size _ _ 5 72 hTR _ L.length (allC L) rfl how7 (some ⟨w6.heap.size, 0, none⟩) 1 1 (itC (⟨1, del, key, value, 0⟩, .slice AK m cK, .slice AV m' cV)) rfl rfl hx7.rd HIt.out.one (by unfold maxLen; omega) (by omega) hB7.size ?_; clear tkC; intro vw8 w8 how8 hgw8 hatw8; have hoa8 := far_row hoa7 hgw8 hap6.symm; have hx8 := far_blk hxx7 hgw8 hgW; have hap8 := (apart_new hoa7 hap6.symm hatw8).symm; have hgW8 := new_ne hgW hatw8 hxx7.lt; replace hoa8 := row_b (x := (⟨1, del, key, value, 0⟩, .slice AK m cK, .slice AV m' cV)) hoa8; replace how8 := row_c (x := (⟨1, del, key, value, 0⟩, .slice AK m cK, .slice AV m' cV)) how8; have hz7 := hb7.size; have hz8 := hgw8.size; have hB8 := below_own hB7 how7 (Nat.le_refl _) hgw8 hB7.size)
          | fail)
        go_roundw
        case rel => exact ⟨k + 1, L ++ [(⟨1, del, key, value, 0⟩, .slice AK m cK, .slice AV m' cV)], by omega, by go_num, hB8, ok_more HOK.out HIt.out, by simp; omega, hoa8, how8, hap8⟩
        case measure => simp [intOf]; omega
    · obtain rfl : k = n := by omega
      have HBD := Lib.hid (allB_bd hok)
      have HOK := Lib.hid hok
      have hLb : L.length ≤ 80 := by omega
      obtain ⟨AW, cW, rfl⟩ := own_sl how
      obtain ⟨AL, lA, cA, rfl, _⟩ := Bytes.own hoa
      have hby := Bytes.own hoa
      clear hap hoa hok hLk
      go_wp2
      go_loopw [6, 12] (fun va i w2 => ∃ (j : Nat) (Aj : Option Addr) (mj cj : Nat), j ≤ L.length ∧ va = .slice Aj mj cj ∧ i = .int .i64 j ∧ Below wr.heap.size wr w2 ∧ Bytes w2 (.slice Aj mj cj) (allB (L.drop j))) (fun _ i _ => L.length - (intOf i).toNat)
      case atStart => exact ⟨0, _, _, _, Nat.zero_le _, rfl, rfl, Below.refl _ _, hby⟩
      case round =>
        clear hby
        obtain ⟨j, Aj, mj, cj, hj, rfl, rfl, hB2, hby⟩ := hrel
        by_cases hlt2 : j < L.length
        · have hxj : L[j]? = some L[j] := List.getElem?_eq_getElem hlt2
          obtain ⟨x, hxe⟩ : ∃ x, x = L[j] := ⟨_, rfl⟩
          rw [← hxe] at hxj
          have hxo : ItOk w x := HOK.out x (List.mem_of_getElem? hxj)
          clear hxe
          have HN := Lib.hid (show nextB (allB (L.drop j)) = (x.1.norm, x.1.bytes.length, 0) by rw [allB_drop hxj]; exact next_pack hxo.err _)
          have HS := Lib.hid (norm_same hxo.err)
          have HD := Lib.hid (show (allB (L.drop j)).drop x.1.bytes.length = allB (L.drop (j + 1)) by rw [allB_drop hxj, List.drop_left])
          obtain ⟨hml, hmb⟩ : x.1.bytes.length ≤ mj ∧ mj ≤ cj ∧ cj ≤ 9223372036854775807 := by
            obtain ⟨_, _, _, e, e1, e2, e3, _⟩ := hby
            injection e with e4 e5 e6
            subst e5 e6
            rw [allB_drop hxj, List.length_append] at e1
            unfold maxLen at e3
            omega
          have hlen5 := hxo.len
          obtain ⟨gW, rfl⟩ := own_at how (by omega)
          have HRW := Lib.hid (fun w' hB => row_item (w := w') (own_ext how hB) hxj)
          have HKV := Lib.hid (And.intro hxo.key hxo.value)
          obtain ⟨AJ, hrun, hcut⟩ := cut_l hT Aj mj cj (kl := .i64) (lo' := (x.1.bytes.length : Nat)) (lo := x.1.bytes.length) rfl hml
          have HCUT := Lib.hid hcut
          obtain ⟨⟨kind, del, key, value, nn⟩, kv, vv⟩ := x
          simp only at HKV
          have hj5 : (0 : Int) ≤ j ∧ (j : Int) < L.length := by omega
          obtain ⟨bl, hbl⟩ : ∃ bl, bl = (Rec.mk kind del key value nn).bytes.length := ⟨_, rfl⟩
          simp only [← hbl] at HN HD hml hlen5 hrun HCUT
          clear hcut hxj hxo hbl
          generalize hnr : (Rec.mk kind del key value nn).norm = nr at HN HS
          clear hnr
          have tk1 : True := trivial
          go_wp2_with fail
          refine (Next_any _ _ _ hby).mono ?_
          rintro e w8 ⟨hb8, cs8, rfl, hcs8⟩
          rw [HN.out] at hcs8 ⊢
          have hB8 := below_step hB2 hb8
          obtain ⟨kv4, vv4, rfl, hk4, hv4⟩ : RecO _ w8 nr cs8 := hcs8
          have hoK := own_one hk4
          have hoV := own_one hv4
          go_upto_region 24 with (first
            | ((with_reducible refine gd_alloc ?_); have _t := tk1; refine wpList_alloc_blk rfl 36 rfl zR ?_; clear tk1; intro w9 hx9 hb9 hl9)
            | ((with_reducible refine gd_store ?_); refine wpList_store_all rfl 36 (.tmp 13) (.tmp 103) rfl #[.int .i64 nr.kind, .bool nr.del, kv4, vv4, .int .i64 nr.n] hx9 hR rfl (by simp only [oneAll, hoK, hoV]; rfl) (by rfl) (by rfl) ?_; intro w10 hx10 hg10; have hb10 := below_blk hb9 hb9.size hg10 (Nat.le_refl _); have hB10 := below_step hB8 hb10; have hk10 := Bytes.own (own_ext hk4 hb10); have hv10 := Bytes.own (own_ext hv4 hb10))
            | fail)
          have hx10d := hx10.drew
          have hk10d : Bytes w10.drew kv4 nr.key := hk10
          have hv10d : Bytes w10.drew vv4 nr.value := hv10
          have hB10d := hB10.drew
          clear hx10 hk10 hv10 hk4 hv4 hx9
          refine wp_region_each (by kernel_rfl) (by kernel_rfl) (by kernel_rfl) (fun w w' => Below w.heap.size w w') (fun w => Below.refl _ _) (fun x y z h1 h2 => below_step h1 h2) (S24 gW L.length cW j #[.int .i64 nr.kind, .bool nr.del, kv4, vv4, .int .i64 nr.n] #[.int .i64 kind, .bool del, kv, vv, .int .i64 nn]) (S24_stays _ _ _ _ _ _) ?_ ?_
          · simp only [EachStep]
            refine ⟨?_, ?_, ?_, ?_, ?_, ?_, ?_, ?_, ?_, ?_, ?_, ?_, trivial⟩
            · intro V w' hb hd
              clear hd
              refine ⟨?_⟩
              simp only [fill]
              go_wp2
              exact ⟨rfl, rfl, Below.refl _ _, rfl⟩
            · intro V w' hb hd
              simp only [DepFacts, S24, Region.binds, forall_const, and_true] at hd
              refine ⟨?_⟩
              simp only [fill, hd]
              clear hd
              go_wp2_with (first | (go_at_call 21; refine (num21 _ _).mono ?_; rintro e w9 ⟨rfl, rfl⟩) | fail)
              exact ⟨rfl, rfl, Below.refl _ _, rfl⟩
            · intro V w' hb hd
              simp only [DepFacts, S24, Region.binds, forall_const, and_true] at hd
              refine ⟨?_⟩
              simp only [fill, hd]
              clear hd
              go_wp2
              exact ⟨rfl, rfl, Below.refl _ _, rfl⟩
            · intro V w' hb hd
              simp only [DepFacts, S24, Region.binds, forall_const, and_true] at hd
              refine ⟨?_⟩
              simp only [fill, hd]
              clear hd
              go_wp2
              exact ⟨rfl, rfl, Below.refl _ _, rfl⟩
            · intro V w' hb hd
              simp only [DepFacts, S24, Region.binds, forall_const, and_true] at hd
              refine ⟨?_⟩
              simp only [fill, hd]
              clear hd
              simp only [Act.put, List.setIfInBounds_toArray, List.set_cons_zero, List.set_cons_succ]
              go_wp2_with (first | ((with_reducible refine gd_load ?_); refine wpList_load_want (by rfl) 36 (.tmp 13) rfl (hx10d.ext hb) hR rfl ?_) | fail)
              exact ⟨rfl, rfl, Below.refl _ _, rfl⟩
            · intro V w' hb hd
              simp only [DepFacts, S24, Region.binds, forall_const, and_true] at hd
              refine ⟨?_⟩
              simp only [fill, hd]
              clear hd
              go_wp2
              exact ⟨rfl, rfl, Below.refl _ _, rfl⟩
            · intro V w' hb hd
              simp only [DepFacts, S24, Region.binds, forall_const, and_true] at hd
              refine ⟨?_⟩
              simp only [fill, hd]
              clear hd
              go_wp2
              exact ⟨rfl, rfl, Below.refl _ _, rfl⟩
            · intro V w' hb hd
              simp only [DepFacts, S24, Region.binds, forall_const, and_true] at hd
              refine ⟨?_⟩
              simp only [fill, hd]
              clear hd
              go_wp2
              exact ⟨rfl, rfl, Below.refl _ _, rfl⟩
            · intro V w' hb hd
              have hrw := HRW.out _ (below_step (below_step hB2 hb8) (below_step (below_drew hb10) hb))
              simp only [DepFacts, S24, Region.binds, forall_const, and_true] at hd
              refine ⟨?_⟩
              simp only [fill, hd]
              clear hd
              simp only [Act.put, List.setIfInBounds_toArray, List.set_cons_zero, List.set_cons_succ]
              go_wp2_with (first | ((with_reducible refine gd_load ?_); refine wpList_load_mid_want (by rfl) 36 (.tmp 113) rfl gW (j * 5) rfl _ _ hrw Try.underlying36 rfl (by kernel_rfl) ?_) | fail)
              exact ⟨rfl, rfl, Below.refl _ _, rfl⟩
            · intro V w' hb hd
              have hBw := below_step (below_step hBr hB10d) hb
              simp only [DepFacts, S24, Region.binds, forall_const, and_true] at hd
              refine ⟨?_⟩
              simp only [fill, hd]
              clear hd
              go_wp2_with fail
              refine (SameRecord_any nr ⟨kind, del, key, value, nn⟩ _ _ _ _ _ (hk10d.ext hb) (hv10d.ext hb) (HKV.out.1.ext hBw) (HKV.out.2.ext hBw)).mono ?_
              rintro e w11 ⟨rfl, hb11⟩
              rw [HS.out]
              go_wp2
              exact ⟨rfl, rfl, hb11, rfl⟩
            · intro V w' hb hd
              simp only [DepFacts, S24, Region.binds, forall_const, and_true] at hd
              refine ⟨?_⟩
              simp only [fill, hd]
              clear hd
              go_wp2
              exact ⟨rfl, rfl, Below.refl _ _, rfl⟩
            · intro V w' hb hd
              simp only [DepFacts, S24, Region.binds, forall_const, and_true] at hd
              refine ⟨?_⟩
              simp only [fill, hd]
              clear hd
              go_wp2
              exact ⟨rfl, rfl, Below.refl _ _, rfl⟩
          · intro V w' hb hV
            simp only [SFacts, S24] at hV
            have h11 := hV.2.2.2.2.2.2.2.2.2.2.2.1
            clear hV
            have hB11 := below_step hB10d hb
            simp only [fill, h11]
            simp only [Exit.then]
            go_simp
            go_wp2
            go_roundw
            case rel =>
              first
                | exact ⟨j + 1, AJ, mj - bl, cj - bl, by omega, rfl, by go_num, hB11, by rw [← HD.out]; exact HCUT.out _ _ (hby.ext (below_step hb8 (below_step (below_drew hb10) hb)))⟩
                | ((repeat apply Exists.intro); exact ⟨⟨j + 1, AJ, mj - bl, cj - bl, by omega, rfl, by go_num, hB11, by rw [← HD.out]; exact HCUT.out _ _ (hby.ext (below_step hb8 (below_step (below_drew hb10) hb)))⟩, rfl⟩)
            case measure => simp [intOf]; omega
        · obtain rfl : j = L.length := by omega
          have HN := Lib.hid (show nextB (allB (L.drop L.length)) = (.zero, 0, 6) by rw [List.drop_length]; exact next_nil)
          have tk1 : True := trivial
          go_wp2_with fail
          refine (Next_any _ _ _ hby).mono ?_
          rintro e w8 ⟨hb8, cs8, rfl, hcs8⟩
          rw [HN.out] at hcs8 ⊢
          have hB8 := below_step (below_step hBr hB2) hb8
          obtain ⟨kv4, vv4, rfl, hk4, hv4⟩ : RecO _ w8 .zero cs8 := hcs8
          have hoK := own_one hk4
          have hoV := own_one hv4
          go_wp2_with (first
            | ((with_reducible refine gd_alloc ?_); have _t := tk1; refine wpList_alloc_blk rfl 36 rfl zR ?_; clear tk1; intro w9 hx9 hb9 hl9)
            | ((with_reducible refine gd_store ?_); refine wpList_store_all rfl 36 (.tmp 16) (.tmp 124) rfl #[.int .i64 0, .bool false, kv4, vv4, .int .i64 0] hx9 hR rfl (by simp only [oneAll, hoK, hoV]; rfl) (by rfl) (by rfl) ?_; intro w10 hx10 hg10; have hb10 := below_blk hb9 hb9.size hg10 (Nat.le_refl _); have hB10 := below_step hB8 hb10)
            | (go_at_call 21; refine (num21 _ _).mono ?_; rintro e w' ⟨rfl, rfl⟩)
            | fail)
          go_ret
          exact ⟨rfl, hB10⟩
open Go.ChangeShapes Go.WideShapes Go.ChangeAt

set_option maxRecDepth 100000 in
theorem lifted (os : Os) (started : os.Started) (H : Type) (enc : TypeId × Value → H) :
    ReturnsInHanded {} Try.checked os 9 .any (Rows.recordRowsSpec.pre6 enc Try.prog Try.f9 Rows.recordRowsRow.domain false) (Rows.recordRowsSpec.post enc Try.prog Try.f9 false true false false) := by
  refine law_lift (C := Try.checked) (ts := [49, 50]) (tb := 4) (by kernel_rfl) started (by kernel_rfl) Try.func9
    (ChangeSpec.witness6 (enc := enc) (C := Try.checked) false ⟨#[], #[.slice none 0 0, .slice none 0 0], []⟩ 8 (by kernel_rfl) (by kernel_rfl) (by kernel_rfl) (by kernel_rfl))
    (by kernel_rfl) (by kernel_rfl) (by kernel_rfl) (by kernel_rfl) Try.underlying4 rfl (fun ds h => by match ds, h with | [_, _], _ => rfl) ?_
  intro W vs hl h
  match vs, hl with
  | [v0, v1], _ =>
    have hl := h 0 _ v0 rfl rfl
    have hn := h 1 _ v1 rfl rfl
    obtain ⟨rs, A, n, c, xs, rfl, g1, g2, g3, g4, g5, g6⟩ := arg_slice Try.underlying49 (by kernel_rfl) (opens_op enc) hl
    obtain ⟨ns, A2, n2, c2, ys, rfl, k1, k2, k3, k4, k5, k6⟩ := arg_slice Try.underlying50 (by kernel_rfl) (opens_int enc 0 (fun _ => true) true Try.underlying3) hn
    by_cases he : 40 < n ∨ 40 < n2
    · exact early n c n2 c2 A A2 W g3 k3 g4 k4 he
    · exact walk n c n2 c2 A A2 xs ys rs W g3 k3 g4 k4 (by omega) (by omega) g5 g1 g2 g6 k5 (fun k hk => int_cell (by rw [k2]; omega) k1 k6 hk)

theorem over : Rows.recordRowsRow.holds Try.pinned (OpenSpec.ofChange Rows.recordRowsSpec) :=
  OpenClaim.holds_of_wide 9 Try.f9 rfl rfl rfl rfl rfl rfl rfl ⟨rfl, rfl, rfl, rfl, rfl⟩ rfl rfl rfl rfl rfl (by kernel_rfl) Try.func9 (by kernel_rfl)
    (of_decide_eq_true (by kernel_rfl)) (by unfold Func.isWrapper; first | (rw [if_pos (by decide +kernel)]; kernel_rfl) | (rw [if_neg (by decide +kernel)]; exact ⟨rfl, rfl⟩))
    (fun os started H enc _ => lifted os started H enc)
end Go.Proofs.Ytmaaejicfpfcdaa.RecordRows
namespace Go.Proofs.Ytmaaejicfpfcdaa
theorem recordRows_holds : Rows.RecordRowsSaid := RecordRows.over
#print axioms recordRows_holds
end Go.Proofs.Ytmaaejicfpfcdaa
