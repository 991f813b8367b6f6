/- chirographlaw1.ShaLong: the walk. -/
import Derived.Test.YtilglaacegjdoaaTold
import Derived.Test.YtilglaacegjdoaaMake
import Derived.Laws.BitsLemmas
import Derived.Laws.Bits64
namespace Go.Proofs.Ytilglaacegjdoaa
open Go.RowKit

/-- int(uint(x) % m) -/
theorem rem_wrap (x m : Int) (h0 : 0 < m) (h1 : m ≤ 4611686018427387904) : ∃ n : Nat, wrap64 ((IntKind.u64.wrap x).tmod m) = (n : Int) ∧ (n : Int) < m := by
  have hx := wrap_u64_nonneg x
  generalize IntKind.u64.wrap x = y at hx
  have h2 : y.tmod m = y % m := Int.tmod_eq_emod_of_nonneg hx
  have h3 := Int.emod_nonneg y (b := m) (by omega)
  have h4 := Int.emod_lt_of_pos y h0
  refine ⟨(y % m).toNat, ?_, by omega⟩
  rw [h2, Int.toNat_of_nonneg h3]
  unfold wrap64
  omega

theorem make_u8 : ((Try.prog.info? 5).bind fun i => i.zero.map fun z => (i.size, i.bytes, z.cells.toList)) = some (1, 1, [.int .u8 0]) := by kernel_rfl

set_option maxRecDepth 100000 in
set_option maxHeartbeats 1000000 in
theorem shaLong_row (w : World) (x : Int) (_ : IntKind.i64.min ≤ x) (_ : x ≤ IntKind.i64.max) (c : Int) (_ : IntKind.u8.min ≤ c) (_ : c ≤ IntKind.u8.max) :
    Calls Try.prog 4 #[.int .i64 x, .int .u8 c] w fun e w' => e = .returned (.bool true) ∧ Own w w' [] := by
  have H := Own.refl w
  obtain ⟨n, hn0, hn1⟩ := rem_wrap x 301 (by omega) (by omega)
  have hn := Lib.hid hn0
  have hn2 : Hid (n ≤ 300) := by show n ≤ 300; omega
  clear hn0 hn1
  go_enter Try.func4, Try.ntmps4
  go_wp2_with (refine st_new (f := fun b => .slice (some ⟨b, 0, none⟩) n n) rfl (rn_make H rfl rfl make_u8 rfl rfl hn.out hn.out (by have := hn2.out; omega) (by have := hn2.out; omega)) ?_; clear H; intro b w1 hb H)
  have hrow : List.replicate n (Value.int .u8 0) = u8s (List.replicate n 0) := by simp [ints]
  rw [hrow] at H
  have hl : Hid ((List.replicate n (0 : Int)).length = n) := by show _ = _; simp
  clear hrow hn
  generalize List.replicate n (0 : Int) = xs0 at H hl
  go_loopw [6] (fun v wr => ∃ i xs, i ≤ n ∧ v = .int .i64 ((i : Nat) : Int) ∧ xs.length = n ∧ Own w wr [(b, u8s xs, 5)]) (fun v _ => (n - intOf v).toNat)
  case atStart => exact ⟨0, xs0, by omega, rfl, hl.out, H⟩
  case round =>
    clear H hl
    obtain ⟨i, xs, hi, rfl, hl, H⟩ := hrel
    have hl' := Lib.hid hl
    clear hl
    by_cases hi2 : i < n
    · have hib : i < 300 := by have := hn2.out; omega
      go_wp2_with (first
        | (refine st_val rfl (rn_idxSl (j := (i : Int)) rfl rfl size_u8 rfl rfl (by omega) (by omega)) ?_)
        | (refine st_skip rfl (rn_storeI H rfl rfl rfl (by kernel_rfl) .head (by rw [hl'.out]; omega)) ?_; clear H; intro w8 H))
      exact ⟨⟨i + 1, _, by omega, by go_num, by rw [List.length_set]; exact hl'.out, H⟩, by simp [intOf]; omega⟩
    · obtain rfl : i = n := by omega
      have hby : Hid (∀ w2, Own wr w2 [] → BytesAt w2 (.slice (some ⟨b, 0, none⟩) i i) xs) := fun w2 h2 => (H.call0 h2).lit hl'.out.symm
      have hlt : Hid (∀ w2 : World, Own wr w2 [] → ∀ k, blk (Value.slice (some ⟨b, 0, none⟩) i i) = some k → k < w2.heap.size) := fun w2 h2 => (H.call0 h2).lit_lt
      have HR := Own.refl wr
      have H0 := Lib.hid (H.end0 (by simpa using hb))
      clear H
      obtain ⟨S, hS⟩ : ∃ S, sha xs = S := ⟨_, rfl⟩
      have lS : Hid (S.length = 32) := hS ▸ length_sha _
      have hS' := Lib.hid hS
      have eS : ∀ w, (Op.equalIn 10000 25 (.agg (u8s S).toArray) (.agg (u8s S).toArray)).run Try.prog w = .ok true w := fun w => by rw [eqHash w S S lS.out lS.out, decide_eq_true rfl]
      clear hS
      have tok1 : True := trivial
      go_wp2_with (first
        | (clear tok1; go_at_call 9; refine (told_any _).mono ?_; rintro e w3 ⟨rfl, h3⟩; have H2 := HR.call0 h3; clear HR h3; have HR := H2; clear H2; have tok2 : True := trivial)
        | (clear tok2; go_at_call 10; refine (shaSum_any _ _ xs (hby.out _ HR) (hlt.out _ HR) (by have := hl'.out; have := hn2.out; omega)).mono ?_; rintro e w3 ⟨rfl, h3⟩; rw [hS'.out]; have H2 := HR.call0 h3; clear HR h3; have HR := H2; clear H2; have tok3 : True := trivial)
        | (clear tok3; go_at_call 11; refine (refSum_any _ _ xs (hby.out _ HR) (hlt.out _ HR) (by have := hl'.out; have := hn2.out; omega)).mono ?_; rintro e w3 ⟨rfl, h3⟩; rw [hS'.out]; have H2 := HR.call0 h3; clear HR h3; have HR := H2; clear H2))
      have HF := Lib.hid (H0.out.trans HR)
      go_ret
      exact ⟨rfl, HF.out⟩
end Go.Proofs.Ytilglaacegjdoaa
