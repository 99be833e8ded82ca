/- A record that came in, as the walks want it. -/
import Derived.Test.YtmaaejicfpfcdaaRecNextW
import Derived.Test.YtmaaejicfpfcdaaLaw
namespace Go.Mun
open Go Go.RowKit Go.Proofs Go.ChangeShapes Go.WideShapes Go.ChangeAt

set_option maxRecDepth 100000 in
theorem rec_of {H : Type} {enc : TypeId × Value → H} {W : World} {v : Value} (h : ArgOk enc Try.prog W 36 v) :
    ∃ (r : Rec) (kv vv : Value), v = .agg #[.int .i64 r.kind, .bool r.del, kv, vv, .int .i64 r.n] ∧ Bytes W kv r.key ∧ Bytes W vv r.value ∧ -9223372036854775808 ≤ r.n ∧ r.n ≤ 9223372036854775807 := by
  obtain ⟨cs, rfl, hsz, hone, fuel, x, hx⟩ := arg_cells Try.underlying36 rfl h
  have hsz' : cs.size = 5 := hsz.trans (by kernel_rfl)
  obtain ⟨n0, y0, h0⟩ := trod_at Try.underlying36 hx 0 rfl (e := 3) (off := 0) (size := 1) rfl rfl (by kernel_rfl)
  obtain ⟨n1, y1, h1⟩ := trod_at Try.underlying36 hx 1 rfl (e := 34) (off := 1) (size := 3) rfl rfl (by kernel_rfl)
  obtain ⟨n2, y2, h2⟩ := trod_at Try.underlying36 hx 2 rfl (e := 3) (off := 4) (size := 1) rfl rfl (by kernel_rfl)
  obtain ⟨n3, y3, h3⟩ := trod_at Try.underlying34 h1 0 rfl (e := 4) (off := 0) (size := 1) rfl rfl (by kernel_rfl)
  obtain ⟨n4, y4, h4⟩ := trod_at Try.underlying34 h1 1 rfl (e := 24) (off := 1) (size := 1) rfl rfl (by kernel_rfl)
  obtain ⟨n5, y5, h5⟩ := trod_at Try.underlying34 h1 2 rfl (e := 24) (off := 2) (size := 1) rfl rfl (by kernel_rfl)
  obtain ⟨kind, hk, _⟩ := opens_int enc 0 (fun _ => true) true Try.underlying3 W n0 _ y0 h0
  obtain ⟨n, hn, hnw⟩ := opens_int enc 0 (fun _ => true) true Try.underlying3 W n2 _ y2 h2
  obtain ⟨del, hd⟩ := opens_bool enc 0 (fun _ => true) true Try.underlying4 W n3 _ y3 h3
  obtain ⟨key, kv, hkv, hkb⟩ := opens_bytes enc 0 (fun _ => true) true Try.underlying24 Try.underlying5 (by kernel_rfl) W n4 _ y4 h4
  obtain ⟨value, vv, hvv, hvb⟩ := opens_bytes enc 0 (fun _ => true) true Try.underlying24 Try.underlying5 (by kernel_rfl) W n5 _ y5 h5
  have hnb := bounds_i64 hnw
  obtain ⟨l, rfl⟩ : ∃ l : List Value, cs = l.toArray := ⟨cs.toList, by simp⟩
  simp only [List.size_toArray] at hsz'
  match l, hsz' with
  | [a0, a1, a2, a3, a4], _ =>
    unfold rBool at hd
    simp at hk hn hd hkv hvv
    subst hk
    subst hn
    subst hd
    subst hkv
    subst hvv
    exact ⟨⟨kind, del, key, value, n⟩, _, _, rfl, hkb, hvb, hnb.1, hnb.2⟩

theorem body_five (r : Rec) : 5 ≤ r.body.length := by
  unfold Rec.body
  split <;> simp [fourB] <;> omega
theorem err_small (r : Rec) : 0 ≤ r.err ∧ r.err ≤ 3 := by
  unfold Rec.err
  split
  · omega
  · split
    · omega
    · split <;> omega
end Go.Mun
