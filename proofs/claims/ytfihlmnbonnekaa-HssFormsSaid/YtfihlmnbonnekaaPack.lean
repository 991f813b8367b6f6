/- pack.Writer: Raw, Num, Bytes. -/
import Derived.Test.YtfihlmnbonnekaaLow
import Derived.Test.YtfihlmnbonnekaaShaF
namespace Go.Proofs.Ytfihlmnbonnekaa
open Go.RowKit

set_option maxRecDepth 100000 in
set_option maxHeartbeats 1000000 in
/-- Raw puts bytes behind what a writer holds -/
theorem raw_any (w0 w : World) (L : List Ent) (wb : Nat) (v : Value) (xs : List Int) (B : Buf 5 .u8 w0 w ((wb, [v], 107) :: L) v xs) (b : Value) (bs : List Int) (hb : BytesAt w b bs) (hl : xs.length + bs.length ≤ 140737488355328) :
    Calls Try.prog 60 #[.pointer (some ⟨wb, 0, none⟩), b] w fun e w' => e = .returned (.tuple #[]) ∧ ∃ v', Buf 5 .u8 w0 w' ((wb, [v'], 107) :: L) v' (xs ++ bs) := by
  have hb' := Lib.hid hb
  have hl' := Lib.hid hl
  obtain ⟨p0, c0, rfl⟩ := B.slice
  have hsh : ∃ p c, b = .slice p bs.length c := by
    rcases hb.cell with ⟨⟨p, rfl⟩, rfl⟩ | ⟨b, off, cap, rfl, _, _⟩
    · exact ⟨p, 0, rfl⟩
    · exact ⟨_, _, rfl⟩
  obtain ⟨pb, cb, rfl⟩ := hsh
  clear hb hl
  go_enter Try.func60, Try.ntmps60
  go_wp2_with (first
    | (refine st_val rfl (rn_load B.own0 rfl rfl (.head _) rfl rfl rfl) ?_)
    | (refine st_app (ys := bs) rfl B elem_u8 rfl rfl rfl rfl hb'.out (by have := hl'.out; omega) (by have := hl'.out; omega) ?_; clear B; intro p6 c6 w6 B)
    | (refine st_bufSet rfl B rfl rfl rfl (by kernel_rfl) (by simp) rfl ?_; clear B; intro w7 B))
  go_end0
  exact ⟨rfl, _, B⟩

set_option maxRecDepth 100000 in
set_option maxHeartbeats 1000000 in
/-- Num puts a number's bytes behind it -/
theorem num_any (w0 w : World) (L : List Ent) (wb : Nat) (v : Value) (xs : List Int) (B : Buf 5 .u8 w0 w ((wb, [v], 107) :: L) v xs) (x : Int) (m : Nat) (hm0 : 0 < m) (hm8 : m ≤ 8) (hl : xs.length ≤ 140737488355000) :
    Calls Try.prog 59 #[.pointer (some ⟨wb, 0, none⟩), .int .u64 x, .int .i64 m] w fun e w' => e = .returned (.tuple #[]) ∧ ∃ v', Buf 5 .u8 w0 w' ((wb, [v'], 107) :: L) v' (xs ++ numB x m) := by
  have hl' := Lib.hid hl
  have hstep : Hid (∀ i, i < m → (numB x m).take (m - (i + 1)) ++ [x / 2 ^ (8 * i) % 256] = (numB x m).take (m - i)) := fun i hi => numB_step hi
  have hlen := Lib.hid (length_numB x m)
  obtain ⟨nb, hnb⟩ : ∃ nb, numB x m = nb := ⟨_, rfl⟩
  rw [hnb] at hstep hlen ⊢
  clear hl hnb
  go_enter Try.func59, Try.ntmps59
  go_wp2_with fail
  go_loopw [6] (fun v6 wr => ∃ i v', i ≤ m ∧ v6 = .int .i64 ((i : Int) - 1) ∧ Buf 5 .u8 w0 wr ((wb, [v'], 107) :: L) v' (xs ++ nb.take (m - i))) (fun v6 _ => (intOf v6 + 2).toNat)
  case atStart => exact ⟨m, v, by omega, rfl, by simpa using B⟩
  case round =>
    clear B
    obtain ⟨i, v', hi, rfl, B⟩ := hrel
    by_cases hi0 : 0 < i
    · obtain ⟨j, rfl⟩ : ∃ j, i = j + 1 := ⟨i - 1, by omega⟩
      have hj : ((j + 1 : Nat) : Int) - 1 = (j : Int) := by omega
      rw [hj]
      have hl2 : Hid ((xs ++ nb.take (m - (j + 1))).length ≤ 140737488355008) := by show _ ≤ _; have := hl'.out; have := hlen.out; simp; omega
      have hst : Hid (xs ++ nb.take (m - (j + 1)) ++ [x / 2 ^ (8 * j) % 256] = xs ++ nb.take (m - j)) := by show _ = _; rw [List.append_assoc, hstep.out j (by omega)]
      obtain ⟨p0, c0, rfl⟩ := B.slice
      obtain ⟨zs, hzs⟩ : ∃ zs, zs = xs ++ nb.take (m - (j + 1)) := ⟨_, rfl⟩
      rw [← hzs] at hl2 hst B
      clear hzs hj
      go_wp2_with (first
        | (refine st_val rfl (rn_load B.own0 rfl rfl (.head _) rfl rfl rfl) ?_)
        | (refine st_lit rfl B rfl (cs := u8s [x / 2 ^ (8 * j) % 256]) (el := 5) (fun w' => by kernel_rfl) ?_; clear B; intro b2 w5 hb2 B)
        | (refine st_app (ys := [x / 2 ^ (8 * j) % 256]) rfl B elem_u8 rfl rfl rfl rfl (B.litAt (.head _) rfl) (by have := hl2.out; simp; omega) (by have := hl2.out; simp; omega) ?_; clear B; intro p6 c6 w6 B; rw [hst.out] at B; have B2 := B.pop hb2; clear B; have B := B2; clear B2)
        | (refine st_bufSet rfl B rfl rfl rfl (by kernel_rfl) (by simp) rfl ?_; clear B; intro w7 B))
      exact ⟨⟨j, _, by omega, by go_num, B⟩, by simp [intOf]; omega⟩
    · obtain rfl : i = 0 := by omega
      have he : Hid (nb.take (m - 0) = nb) := List.take_of_length_le (by rw [hlen.out]; omega)
      rw [he.out] at B
      go_wp2_with fail
      go_end0
      exact ⟨rfl, _, B⟩

set_option maxRecDepth 100000 in
set_option maxHeartbeats 1000000 in
/-- Bytes is a copy of what a writer holds -/
theorem bytesB_any (w : World) (wb : Nat) (v : Value) (xs : List Int) (H1 : Own w w [(wb, [v], 107)]) (hv : BytesAt w v xs) (hlt : ∀ k, blk v = some k → k < w.heap.size) (hl : xs.length ≤ 140737488355000) :
    Calls Try.prog 61 #[.pointer (some ⟨wb, 0, none⟩)] w fun e w' => ∃ r, e = .returned r ∧ Buf 5 .u8 w w' [] r xs := by
  have H := Own.refl w
  have O : Hid (Old w v xs) := ⟨hv, hlt⟩
  have hl' := Lib.hid hl
  have hsh : ∃ p c, v = .slice p xs.length c := O.out.shape
  obtain ⟨pb, cb, rfl⟩ := hsh
  have hcell : Hid (w.cell? ⟨wb, 0, none⟩ = some (.slice pb xs.length cb)) := H1.cell (.head _) 0
  have hwb := H1.lt (.head _)
  have hcell' : Hid (∀ w1 L, Own w w1 L → (∀ k ∈ L.map (·.1), w.heap.size ≤ k) → w1.cell? ⟨wb, 0, none⟩ = some (.slice pb xs.length cb)) := fun w1 L h1 h2 => h1.old hcell.out (fun hm => by have := h2 wb hm; omega)
  clear hv hlt hl H1 hcell hwb
  have tok1 : True := trivial
  go_enter Try.func61, Try.ntmps61
  go_wp2_with (first
    | (clear tok1; refine st_new rfl (rn_buildSlice (e := 5) (cs := u8s []) H rfl (fun w' => by kernel_rfl)) ?_; clear H; intro b w4 hb H; have B : Buf 5 .u8 w w4 [] (.slice (some ⟨b, 0, none⟩) 0 0) [] := Buf.lit (xs := []) H hb (by decide); clear H)
    | (refine st_val rfl (rn_cell rfl rfl rfl rfl (hcell'.out _ _ B.own0 (by simp))) ?_)
    | (refine st_app (ys := xs) rfl B elem_u8 rfl rfl rfl rfl (O.out.at B.own0 (by simp)) (by have := hl'.out; simp; omega) (by have := hl'.out; simp; omega) ?_; clear B; intro p6 c6 w6 B))
  have B2 := Lib.hid B
  simp only [List.length_nil, Nat.zero_add, List.nil_append] at B2 ⊢
  clear B
  go_ret
  exact ⟨_, rfl, B2.out⟩
theorem bytes_any (w : World) (wb : Nat) (v : Value) (xs : List Int) (H1 : Own w w [(wb, [v], 107)]) (hv : BytesAt w v xs) (hlt : ∀ k, blk v = some k → k < w.heap.size) (hl : xs.length ≤ 140737488355000) :
    Calls Try.prog 61 #[.pointer (some ⟨wb, 0, none⟩)] w fun e w' => ∃ r, e = .returned r ∧ BIn xs w' r ∧ Own w w' [] :=
  (bytesB_any w wb v xs H1 hv hlt hl).mono fun _ _ ⟨r, h1, h2⟩ => ⟨r, h1, ⟨h2.slice, h2.bytesAt, h2.lt⟩, h2.own0⟩

end Go.Proofs.Ytfihlmnbonnekaa
