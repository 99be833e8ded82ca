/- The walk of the document's reading of a record: its callees, as quiet ones. -/
import Derived.Test.YtmaaejicfpfcdaaRecRef
namespace Go.Mun
open Go Go.RowKit Go.Proofs

theorem u8_two (x : UInt8) : x = 2 ↔ x.toNat = 2 := ⟨fun e => by rw [e]; rfl, fun e => UInt8.toNat_inj.1 (by rw [e]; rfl)⟩
theorem u8_one (x : UInt8) : x = 1 ↔ x.toNat = 1 := ⟨fun e => by rw [e]; rfl, fun e => UInt8.toNat_inj.1 (by rw [e]; rfl)⟩
theorem byteD {w : World} {A : Option Addr} {l : List UInt8} (h : Rd w A (bv l)) {j : Nat} (hj : j < l.length) : ∃ ad, A = some ad ∧ w.cell? (ad.add j) = some (.int .u8 ((l.getD j 0).toNat : Int)) := by
  obtain ⟨ad, e, hc⟩ := h.byte hj
  refine ⟨ad, e, ?_⟩
  rw [List.getD_eq_getElem?_getD, List.getElem?_eq_getElem hj]
  exact hc
theorem Crc_b {v : Value} {l : List UInt8} {w : World} (hb : Bytes w v l) (h : l.length ≤ 4611686018427387904) :
    Calls Try.prog 18 #[v] w fun e w' => e = .returned (.int .i64 (crcSum l)) ∧ w = w' := by
  obtain ⟨A, n, c, rfl, h1, h2, h3, h4⟩ := hb
  exact Crc_any A n c l w h1 h4 (by omega)
theorem Crc_q {v : Value} {l : List UInt8} {w : World} (hb : Bytes w v l) (h : l.length ≤ 4611686018427387904) :
    Calls Try.prog 18 #[v] w fun e w' => e = .returned (.int .i64 (crcSum l)) ∧ w' = w := (Crc_b hb h).mono fun _ _ ⟨e, h⟩ => ⟨e, h.symm⟩
theorem num_q {v : Value} {l : List UInt8} {w : World} {s : Nat} (hs : numB l = s) (hb : Bytes w v l) (h : 4 ≤ l.length) :
    Calls Try.prog 46 #[v] w fun e w' => e = .returned (.int .i64 (s : Int)) ∧ ∃ k, w' = w.drewN k := by
  rw [← hs]
  exact num_b hb h

end Go.Mun
