/- pack.Writer: Raw, Num, Bytes. And what stands on it. No condition. -/
import Derived.Test.YtfihlmnbonnekaaGreatLow
import Derived.Test.YtfihlmnbonnekaaGreatMa

/-! pack.Writer: Raw, Num, Bytes. -/
namespace Go.Proofs.YtfihlmnbonnekaaGreat
open Go.RowKit
set_option maxHeartbeats 32000000
set_option maxRecDepth 100000 in
theorem raw_any (w0 w : World) (L : List Ent) (wb : Nat) (v : Value) (xs : List Int) (B : Buf 5 .u8 w0 w ((wb, [v], 79) :: L) v xs) (b : Value) (bs : List Int) (hb : BytesAt w b bs) (hl : xs.length + bs.length ≤ 140737488355328) :
 Calls Tryz.prog 39 #[.pointer (some ⟨wb, 0, none⟩), b] w fun e w' => e = .returned (.tuple #[]) ∧ ∃ v', Buf 5 .u8 w0 w' ((wb, [v'], 79) :: L) v' (xs ++ bs) := by
 have hb' := Hh hb
 have hl' := Hh hl
 obtain ⟨p0, c0, rfl⟩ := B.slice
 have hsh : ∃ p c, b = .slice p bs.length c := by
  rcases hb.cell with ⟨⟨p, rfl⟩, rfl⟩ | ⟨b, off, cap, rfl, _, _⟩
  · exact ⟨p, 0, rfl⟩
  · exact ⟨_, _, rfl⟩
 obtain ⟨pb, cb, rfl⟩ := hsh
 clear hb hl
 go_enter Tryz.func39, Tryz.ntmps39
 go_wp2_with (first
  | (refine st_val rfl (rn_load B.own0 rfl rfl (.head _) rfl rfl rfl) ?_)
  | (refine st_app (ys := bs) rfl B elem_u8 rfl rfl rfl rfl hb'.out (by have := hl'.out; omega) (by have := hl'.out; omega) ?_; clear B; intro p6 c6 w6 B)
  | (refine st_bufSet rfl B rfl rfl rfl (by kernel_rfl) (by simp) rfl ?_; clear B; intro w7 B))
 go_end0
 exact ⟨rfl, _, B⟩
set_option maxRecDepth 100000 in
theorem num_any (w0 w : World) (L : List Ent) (wb : Nat) (v : Value) (xs : List Int) (B : Buf 5 .u8 w0 w ((wb, [v], 79) :: L) v xs) (x : Int) (m : Nat) (hm0 : 0 < m) (hm8 : m ≤ 8) (hl : xs.length ≤ 140737488355000) :
 Calls Tryz.prog 37 #[.pointer (some ⟨wb, 0, none⟩), .int .u64 x, .int .i64 m] w fun e w' => e = .returned (.tuple #[]) ∧ ∃ v', Buf 5 .u8 w0 w' ((wb, [v'], 79) :: L) v' (xs ++ numB x m) := by
 have hl' := Hh hl
 have hstep : Hid (∀ i, i < m → (numB x m).take (m - (i + 1)) ++ [x / 2 ^ (8 * i) % 256] = (numB x m).take (m - i)) := fun i hi => numB_step hi
 have hlen := Hh (length_numB x m)
 obtain ⟨nb, hnb⟩ : ∃ nb, numB x m = nb := ⟨_, rfl⟩
 rw [hnb] at hstep hlen ⊢
 clear hl hnb
 go_enter Tryz.func37, Tryz.ntmps37
 go_wp2_with fail
 go_loopw [6] (fun v6 wr => ∃ i v', i ≤ m ∧ v6 = .int .i64 ((i : Int) - 1) ∧ Buf 5 .u8 w0 wr ((wb, [v'], 79) :: L) v' (xs ++ nb.take (m - i))) (fun v6 _ => (intOf v6 + 2).toNat)
 case atStart => exact ⟨m, v, by omega, rfl, by simpa using B⟩
 case round =>
  clear B
  obtain ⟨i, v', hi, rfl, B⟩ := hrel
  by_cases hi0 : 0 < i
  · obtain ⟨j, rfl⟩ : ∃ j, i = j + 1 := ⟨i - 1, by omega⟩
    have hj : ((j + 1 : Nat) : Int) - 1 = (j : Int) := by omega
    rw [hj]
    have hl2 : Hid ((xs ++ nb.take (m - (j + 1))).length ≤ 140737488355008) := by show _ ≤ _; have := hl'.out; have := hlen.out; simp; omega
    have hst : Hid (xs ++ nb.take (m - (j + 1)) ++ [x / 2 ^ (8 * j) % 256] = xs ++ nb.take (m - j)) := by show _ = _; rw [List.append_assoc, hstep.out j (by omega)]
    obtain ⟨p0, c0, rfl⟩ := B.slice
    obtain ⟨zs, hzs⟩ : ∃ zs, zs = xs ++ nb.take (m - (j + 1)) := ⟨_, rfl⟩
    rw [← hzs] at hl2 hst B
    clear hzs hj
    go_wp2_with (first
     | (refine st_val rfl (rn_load B.own0 rfl rfl (.head _) rfl rfl rfl) ?_)
     | (refine st_lit rfl B rfl (cs := u8s [x / 2 ^ (8 * j) % 256]) (el := 5) (fun w' => by kernel_rfl) ?_; clear B; intro b2 w5 hb2 B)
     | (refine st_app (ys := [x / 2 ^ (8 * j) % 256]) rfl B elem_u8 rfl rfl rfl rfl (B.litAt (.head _) rfl) (by have := hl2.out; simp; omega) (by have := hl2.out; simp; omega) ?_; clear B; intro p6 c6 w6 B; rw [hst.out] at B; have B2 := B.pop hb2; clear B; have B := B2; clear B2)
     | (refine st_bufSet rfl B rfl rfl rfl (by kernel_rfl) (by simp) rfl ?_; clear B; intro w7 B))
    exact ⟨⟨j, _, by omega, by go_num, B⟩, by simp [intOf]; omega⟩
  · obtain rfl : i = 0 := by omega
    have he : Hid (nb.take (m - 0) = nb) := List.take_of_length_le (by rw [hlen.out]; omega)
    rw [he.out] at B
    go_wp2_with fail
    go_end0
    exact ⟨rfl, _, B⟩
set_option maxRecDepth 100000 in
theorem bytesB_any (w : World) (wb : Nat) (v : Value) (xs : List Int) (H1 : Own w w [(wb, [v], 79)]) (hv : BytesAt w v xs) (hlt : ∀ k, blk v = some k → k < w.heap.size) (hl : xs.length ≤ 140737488355000) :
 Calls Tryz.prog 40 #[.pointer (some ⟨wb, 0, none⟩)] w fun e w' => ∃ r, e = .returned r ∧ Buf 5 .u8 w w' [] r xs := by
 have H := Own.refl w
 have O : Hid (Old w v xs) := ⟨hv, hlt⟩
 have hl' := Hh hl
 have hsh : ∃ p c, v = .slice p xs.length c := O.out.shape
 obtain ⟨pb, cb, rfl⟩ := hsh
 have hcell : Hid (w.cell? ⟨wb, 0, none⟩ = some (.slice pb xs.length cb)) := H1.cell (.head _) 0
 have hwb := H1.lt (.head _)
 have hcell' : Hid (∀ w1 L, Own w w1 L → (∀ k ∈ L.map (·.1), w.heap.size ≤ k) → w1.cell? ⟨wb, 0, none⟩ = some (.slice pb xs.length cb)) := fun w1 L h1 h2 => h1.old hcell.out (fun hm => by have := h2 wb hm; omega)
 clear hv hlt hl H1 hcell hwb
 have z1 := tt
 go_enter Tryz.func40, Tryz.ntmps40
 go_wp2_with (first
  | (clear z1; refine st_new rfl (rn_buildSlice (e := 5) (cs := u8s []) H rfl (fun w' => by kernel_rfl)) ?_; clear H; intro b w4 hb H; have B : Buf 5 .u8 w w4 [] (.slice (some ⟨b, 0, none⟩) 0 0) [] := Buf.lit (xs := []) H hb (by decide); clear H)
  | (refine st_val rfl (rn_cell rfl rfl rfl rfl (hcell'.out _ _ B.own0 (by simp))) ?_)
  | (refine st_app (ys := xs) rfl B elem_u8 rfl rfl rfl rfl (O.out.at B.own0 (by simp)) (by have := hl'.out; simp; omega) (by have := hl'.out; simp; omega) ?_; clear B; intro p6 c6 w6 B))
 have B2 := Hh B
 simp only [List.length_nil, Nat.zero_add, List.nil_append] at B2 ⊢
 clear B
 go_ret
 exact ⟨_, rfl, B2.out⟩
theorem bytes_any (w : World) (wb : Nat) (v : Value) (xs : List Int) (H1 : Own w w [(wb, [v], 79)]) (hv : BytesAt w v xs) (hlt : ∀ k, blk v = some k → k < w.heap.size) (hl : xs.length ≤ 140737488355000) :
 Calls Tryz.prog 40 #[.pointer (some ⟨wb, 0, none⟩)] w fun e w' => ∃ r, e = .returned r ∧ BIn xs w' r ∧ Own w w' [] :=
 (bytesB_any w wb v xs H1 hv hlt hl).mono fun _ _ ⟨r, h1, h2⟩ => ⟨r, h1, ⟨h2.slice, h2.bytesAt, h2.lt⟩, h2.own0⟩
end Go.Proofs.YtfihlmnbonnekaaGreat

/-! slices.Clone of bytes: what it returns is the caller's own. -/
namespace Go.Proofs.YtfihlmnbonnekaaGreat
open Go.RowKit
set_option maxHeartbeats 32000000
theorem Buf.new {e : TypeId} {k : IntKind} {w0 w : World} {L : List Ent} {v : Value} {xs : List Int} (h : Buf e k w0 w L v xs) : ∀ j, blk v = some j → w0.heap.size ≤ j := by
 obtain ⟨Lv, ⟨_, ⟨rfl, _, _⟩ | ⟨g, cap, cs, rfl, rfl, _⟩⟩, _, h3⟩ := h
 · intro j hj; cases hj
 · intro j hj
   obtain rfl : g = j := (blk_some hj).1
   exact h3 g (by simp)
theorem Own.litM {w0 w : World} {L : List Ent} {b : Nat} {bs : List Int} {T : TypeId} {n : Nat} (H : Own w0 w L) (hm : (b, u8s bs, T) ∈ L) (hn : n = bs.length) : BytesAt w (.slice (some ⟨b, 0, none⟩) n n) bs := by
 subst hn
 exact Or.inr ⟨b, 0, bs.length, rfl, ⟨Nat.le_refl _, fun h => by rw [List.eq_nil_of_length_eq_zero h]; rfl⟩, fun i x hx => by rw [H.cell hm, Nat.zero_add]; exact hx⟩
theorem Own.callBuf {e : TypeId} {k : IntKind} {w0 w w' : World} {L : List Ent} {v : Value} {xs : List Int} (h : Own w0 w L) (hb : Buf e k w w' [] v xs) : Buf e k w0 w' L v xs := by
 obtain ⟨Lv, h1, h2, h3⟩ := hb
 rw [List.append_nil] at h2
 exact ⟨Lv, h1, Own.call (L1 := []) (L1' := Lv) h ⟨h2, fun j hj => Or.inr (h3 j hj)⟩ (by simp), fun j hj => Nat.le_trans h.size (h3 j hj)⟩
theorem Buf.bin {w0 w : World} {L : List Ent} {v : Value} {xs : List Int} {e : TypeId} (h : Buf e .u8 w0 w L v xs) : BIn xs w v := ⟨h.slice, h.bytesAt, h.lt⟩
theorem st_bufPut {P : Program} {ops : Array Oper} {rest : List Oper} {o : Oper} {a : Act} {w w0 : World} {Q : Exit → Act → World → Prop} {L : List Ent} {e : TypeId} {k : IntKind} {v : Value} {xs : List Int} (hg : o.guard = none) {b : Nat} {cs vs : List Value} {T : TypeId} (E : Buf e k w0 w ((b, cs, T) :: L) v xs) {ty : TypeId} {x y : Operand} (ho : o.op = .store ty x y) (hx : a.eval x = .pointer (some ⟨b, 0, none⟩)) (hy : a.eval y = .agg vs.toArray)
 (hs : (P.info? ty).map (·.size) = some vs.length) (hl : vs.length = cs.length) (h1 : ∀ v ∈ vs, v.oneCell' = true)
 (h : ∀ w', Buf e k w0 w' ((b, vs, T) :: L) v xs → wpList P ops Q rest (a.put o.dst undef) w') : wpList P ops Q (o :: rest) a w := by
 obtain ⟨Lv, hsl, H, hf⟩ := E
 exact st_skip hg (rn_storeAll H ho hx hy hs (At.right At.head) hl h1) fun w' H' => h w' ⟨Lv, hsl, H', hf⟩
set_option maxRecDepth 100000 in
theorem clone_any (w : World) (v : Value) (bs : List Int) (hO : Old w v bs) (hl : bs.length ≤ 140737488355000) :
 Calls Tryz.prog 94 #[v] w fun e w' => ∃ r, e = .returned r ∧ Buf 5 .u8 w w' [] r bs := by
 have H := Own.refl w
 obtain ⟨p0, c0, rfl⟩ := hO.shape
 have O := Hh hO
 have hl' := Hh hl
 obtain ⟨n, hn⟩ : ∃ n, n = bs.length := ⟨_, rfl⟩
 rw [← hn] at O ⊢
 have hn' := Hh hn
 clear hO hl hn
 cases p0 with
 | none =>
   have h0 : n = 0 ∧ c0 = 0 := by
    rcases O.out.1.cell with ⟨⟨p, h⟩, _⟩ | ⟨b, off, cap, h, _, _⟩
    · cases h; exact ⟨rfl, rfl⟩
    · cases h
   obtain ⟨rfl, rfl⟩ := h0
   have hb : bs = [] := List.eq_nil_of_length_eq_zero hn'.out.symm
   have H' := Hh H
   clear H
   have hnil : ∀ w1 : World, (binOp .eql 27 (.slice none 0 0) (.slice none 0 0)).run Tryz.prog w1 = .ok (.bool (none : Option Addr).isNone) w1 := fun w1 => run_eql_nil_slice w1 _ _ _ _ _ _ _ Tryz.underlying27
   simp only [Option.isNone_none] at hnil
   go_enter Tryz.func94, Tryz.ntmps94
   go_wp2_with fail
   go_ret
   exact ⟨_, rfl, by rw [hb]; exact Buf.nil H'.out⟩
 | some a0 =>
   have hnil : ∀ w1 : World, (binOp .eql 27 (.slice (some a0) n c0) (.slice none 0 0)).run Tryz.prog w1 = .ok (.bool (some a0).isNone) w1 := fun w1 => Go.Lib.run_eql_slice_nil w1 _ _ _ _ _ _ _ Tryz.underlying27
   simp only [Option.isNone_some] at hnil
   have z1 := tt
   go_enter Tryz.func94, Tryz.ntmps94
   go_wp2_with (first
    | (clear z1; refine st_new rfl (rn_buildSlice (e := 5) (cs := u8s []) H rfl (fun w' => by kernel_rfl)) ?_; clear H; intro b w4 hb H; have B : Buf 5 .u8 w w4 [] (.slice (some ⟨b, 0, none⟩) 0 0) [] := Buf.lit (xs := []) H hb (by decide); clear H)
    | (refine st_app (ys := bs) rfl B elem_u8 rfl rfl rfl rfl (O.out.at B.own0 (by simp)) (by have := hl'.out; simp; omega) (by have := hl'.out; simp; omega) ?_; clear B; intro p6 c6 w6 B))
   have h1 := Hh B
   simp only [List.length_nil, Nat.zero_add, List.nil_append] at h1 ⊢
   clear B
   go_ret
   exact ⟨_, rfl, h1.out⟩
end Go.Proofs.YtfihlmnbonnekaaGreat
