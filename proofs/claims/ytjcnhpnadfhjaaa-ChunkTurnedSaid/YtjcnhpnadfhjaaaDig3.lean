/- sha's digests: Write, whatever comes. -/
import Derived.Test.YtjcnhpnadfhjaaaDig2
import Derived.Test.YtjcnhpnadfhjaaaBuf
namespace Go.Proofs.Ytjcnhpnadfhjaaa
open Go.RowKit

theorem write_any (w : World) (d : Nat) (st : St) (rest xs bs : List Int) (v : Value) (h : DigOf xs st rest) (hN : xs.length ≤ 140737488351232) (hB : bs.length ≤ 140737488351232)
    (H : Own w w [(d, digCells st rest xs.length, 67)]) (hv : BytesAt w v bs) (hne : ∀ k, blk v = some k → k ≠ d) :
    Calls Try.prog 29 #[.pointer (some ⟨d, 0, none⟩), v] w fun e w' => e = .returned (.tuple #[]) ∧
      ∃ st' rest', DigOf (xs ++ bs) st' rest' ∧ Own w w' [(d, digCells st' rest' (xs.length + bs.length), 67)] := by
  have hr := h.2.1
  by_cases h0 : xs.length % 64 = 0
  · refine (write_even w d st rest bs xs.length v hr h0 hN hB H hv hne).mono ?_
    rintro e w' ⟨he, ho⟩
    refine ⟨he, _, _, ?_, ho⟩
    have hl : (splice rest 0 (bs.drop (64 * (bs.length / 64)))).length = 64 := by rw [length_splice _ _ _ (by simp; omega)]; exact hr
    have := h.many (bs := bs) (r := 0) (by omega) (by omega) (Or.inr rfl) hl (by
      rw [Nat.sub_zero, Nat.zero_add]
      have e1 : bs.length % 64 = (bs.drop (64 * (bs.length / 64))).length := by simp; omega
      rw [e1]
      simp [splice])
    simpa using this
  · by_cases h1 : xs.length % 64 + bs.length < 64
    · refine (write_few w d st rest bs xs.length _ v hr rfl (by omega) h1 hN H hv hne).mono ?_
      rintro e w' ⟨he, ho⟩
      exact ⟨he, _, _, h.few h1, ho⟩
    · refine (write_fill w d st rest bs xs.length _ (64 - xs.length % 64) v hr rfl (by omega) (by omega) (by omega) hN hB H hv hne).mono ?_
      rintro e w' ⟨he, ho⟩
      refine ⟨he, _, _, ?_, ho⟩
      have hl1 : (splice rest (xs.length % 64) (bs.take (64 - xs.length % 64))).length = 64 := by rw [length_splice _ _ _ (by simp; omega)]; exact hr
      have hl : (splice (splice rest (xs.length % 64) (bs.take (64 - xs.length % 64))) 0 ((bs.drop (64 - xs.length % 64)).drop (64 * ((bs.drop (64 - xs.length % 64)).length / 64)))).length = 64 := by
        rw [length_splice _ _ _ (by simp; omega)]; exact hl1
      have := h.many (bs := bs) (r := 64 - xs.length % 64) (by omega) (by omega) (Or.inl ⟨by omega, by omega⟩) hl (by
        have e1 : (bs.length - (64 - xs.length % 64)) % 64 = ((bs.drop (64 - xs.length % 64)).drop (64 * ((bs.drop (64 - xs.length % 64)).length / 64))).length := by simp; omega
        rw [e1]
        simp [splice, List.drop_drop])
      rw [if_neg (by omega)] at this
      simpa using this

theorem elem_u8 : Elem Try.prog 5 1 1 := Elem.of (by kernel_rfl) (by decide)

theorem length_bytes8 (n : Int) : (bytes8 n).length = 8 := by simp [bytes8]

theorem bytes8_get (n : Int) {j : Nat} (h : j < 8) : (bytes8 n).take (j + 1) = (bytes8 n).take j ++ [w8 (n / 2 ^ (8 * (7 - j)))] := by
  rw [List.take_add_one]
  simp [bytes8, h]

end Go.Proofs.Ytjcnhpnadfhjaaa
