/- pack.Reader: New, right, Num of four, Raw. -/
import Derived.Test.YtfihlmnbonnekaaPrg5
namespace Go.Proofs.Ytfihlmnbonnekaa
open Go.RowKit

theorem or_u64 {a z : Int} (h0 : 0 ≤ a) (h1 : a < 16777216) (h2 : 0 ≤ z) (h3 : z < 256) : bits .or .u64 (a * 256) z = a * 256 + z := by
  obtain ⟨A, rfl⟩ := Int.eq_ofNat_of_zero_le h0
  obtain ⟨Z, rfl⟩ := Int.eq_ofNat_of_zero_le h2
  have e1 : (A : Int) * 256 = ((A * 256 : Nat) : Int) := by omega
  rw [e1]
  show IntKind.u64.wrap ((BitVec.ofInt 64 ((A * 256 : Nat) : Int) ||| BitVec.ofInt 64 (Z : Int)).toNat : Int) = _
  have h := Nat.two_pow_add_eq_or_of_lt (i := 8) (b := Z) (by omega) A
  rw [BitVec.toNat_or, BitVec.ofInt_natCast, BitVec.ofInt_natCast, BitVec.toNat_ofNat, BitVec.toNat_ofNat, Nat.mod_eq_of_lt (show A * 256 < 2 ^ 64 by omega), Nat.mod_eq_of_lt (show Z < 2 ^ 64 by omega), show A * 256 = 2 ^ 8 * A by omega, ← h, IntKind.wrap_u64]
  omega

/-- a number of bytes, the greatest first -/
def beN (xs : List Int) : Nat → Int
  | 0 => 0
  | i + 1 => beN xs i * 256 + xs[i]?.getD 0
theorem beN_range {xs : List Int} (h : IsBytes xs) : ∀ i, i ≤ xs.length → 0 ≤ beN xs i ∧ beN xs i < 256 ^ i
  | 0, _ => by simp [beN]
  | i + 1, hi => by
    have h1 := beN_range h i (by omega)
    have h2 := h i (by omega)
    have h3 : (256 : Int) ^ (i + 1) = 256 ^ i * 256 := Int.pow_succ ..
    simp only [beN]
    rw [h3]
    omega
theorem beN_eq {xs : List Int} {cd : Int} (h : IsBytes xs) (h4 : 4 ≤ xs.length) (h0 : 1 ≤ cd) (h9 : cd ≤ 4) : (beN xs 4 = cd) ↔ xs.take 4 = numB cd 4 := by
  match xs, h4 with
  | a :: b :: c :: d :: ys, _ =>
    have ha := h 0 (by simp)
    have hb := h 1 (by simp)
    have hc := h 2 (by simp)
    have hd := h 3 (by simp)
    simp at ha hb hc hd
    have e : numB cd 4 = [0, 0, 0, cd] := by
      simp [numB, List.range_succ]
      omega
    rw [e]
    simp [beN]
    omega

set_option maxRecDepth 100000 in
set_option maxHeartbeats 4000000 in
theorem right_ok (w : World) (r n c m : Nat) (p : Option Addr) (H0 : Own w w [(r, [.slice p n c, .bool false], 132)]) (hm : m ≤ n) :
    Calls Try.prog 80 #[.pointer (some ⟨r, 0, none⟩), .int .i64 m] w fun e w' => e = .returned (.bool true) ∧ Own w w' [(r, [.slice p n c, .bool false], 132)] := by
  have H := H0
  have h0 : w.cell? ⟨r, 0, none⟩ = some (.slice p n c) := H.cell (.head _) 0
  have h1 : w.cell? ⟨r, 1, none⟩ = some (.bool false) := H.cell (.head _) 1
  have hd : Hid ((decide ((m : Int) < 0) || decide (n < m)) = false) := by show _ = _; rw [decide_eq_false (by omega), decide_eq_false (by omega)]; rfl
  clear H0
  go_enter Try.func80, Try.ntmps80
  go_wp2_with (first
    | (refine st_skip rfl (rn_store (v := .bool (decide ((m : Int) < 0) || decide (n < m))) H rfl rfl rfl (by kernel_rfl) .head (by simp) rfl) ?_; clear H; intro w1 H; rw [hd.out] at H)
    | (refine st_val rfl (rn_load (i := 1) H rfl rfl (.head _) rfl rfl rfl) ?_))
  have h2 := Lib.hid H
  go_ret
  exact ⟨rfl, h2.out⟩

theorem sub_from {P : Program} {o : Oper} {a : Act} {w : World} {t : TypeId} {x : Operand} {lo : Operand} (ho : o.op = .slice t x (some lo) none none) {e : TypeId} (hu : P.underlying t = some (.slice e)) (hsz : (P.info? e).map (·.size) = some 1) {sv : Value} (hx : a.eval x = sv) {xs : List Int} (hs : BytesAt w sv xs) {m : Nat} {z : Int} (hl : a.eval lo = .int .i64 z) (hz : z = (m : Int)) (hm : m ≤ xs.length) {n : Nat} (hn : xs.length - m = n) :
    ∃ p c, (∀ w', (execOp a.eval o).run P w' = .ok (.value (.slice p n c)) w') ∧ (BytesAt w (.slice p n c) (xs.drop m) ∧ ∀ k, blk (Value.slice p n c) = some k → blk sv = some k) := by
  obtain ⟨p, c, h1, h2, h3⟩ := rn_sub (P := P) (o := o) (a := a) (w := w) (l := m) (h := xs.length) (m := n) ho hu hsz hx hs (length_ints _ _) (by simp only [Option.map_some, hl]; exact .yes hz) (by exact .no _) hm (Nat.le_refl _) hn
  refine ⟨p, c, h1, ?_, h3⟩
  have e1 : ((u8s xs).drop m).take n = u8s (xs.drop m) := by
    rw [List.take_of_length_le (by simp; omega)]
    simp [ints, List.map_drop]
  rw [e1] at h2
  have e2 : (xs.drop m).length = n := by rw [List.length_drop]; exact hn
  rw [BytesAt, e2]
  exact h2

set_option maxRecDepth 100000 in
set_option maxHeartbeats 4000000 in
theorem rnum4_any (w : World) (r n c : Nat) (p : Option Addr) (xs : List Int) (H0 : Own w w [(r, [.slice p n c, .bool false], 132)]) (hs : BytesAt w (.slice p n c) xs) (hn : n = xs.length) (h4 : 4 ≤ n) (hn9 : n ≤ 1000000) (hb : IsBytes xs) (hne : ∀ k, blk (Value.slice p n c) = some k → k ≠ r) :
    Calls Try.prog 51 #[.pointer (some ⟨r, 0, none⟩), .int .i64 4] w fun e w' => e = .returned (.int .u64 (beN xs 4)) ∧ ∃ p' c', Own w w' [(r, [.slice p' (n - 4) c', .bool false], 132)] ∧ BytesAt w' (.slice p' (n - 4) c') (xs.drop 4) ∧ ∀ k, blk (Value.slice p' (n - 4) c') = some k → blk (Value.slice p n c) = some k := by
  have H := H0
  obtain ⟨b, off, hp⟩ := hs.addr (by omega)
  subst hp
  have hbr : b ≠ r := hne b (by
    rcases hs with ⟨⟨_, h1⟩, h0, _⟩ | ⟨_, _, _, h1, ⟨h2, _⟩, _⟩
    · omega
    · cases h1
      show (if c = 0 then none else some b) = some b
      rw [if_neg (by omega)])
  have hbk : Hid (∀ w', Own w w' [(r, [.slice (some ⟨b, off, none⟩) n c, .bool false], 132)] → BytesAt w' (.slice (some ⟨b, off, none⟩) n c) xs) := fun w' h => SlAt.own hs h (fun k hk hm => by simp at hm; exact hne k hk hm)
  have hri := Lib.hid (fun w' (h : Own w w' [(r, [.slice (some ⟨b, off, none⟩) n c, .bool false], 132)]) => right_ok w' r n c 4 (some ⟨b, off, none⟩) (h.sub1 (.head _)) h4)
  have hbr' := Lib.hid (fun i hi => beN_range hb i hi)
  have hb' := Lib.hid hb
  have hn' := Lib.hid hn
  have hdl : Hid (xs.length - 4 = n - 4) := by show _ = _; rw [hn]
  have hne' := Lib.hid hne
  have hs' := Lib.hid hs
  clear H0 hs hb hn hne hbr
  go_enter Try.func51, Try.ntmps51
  go_wp2_with (go_at_call 80; refine (hri.out _ H).mono ?_; rintro e w1 ⟨rfl, h3⟩; have H2 := Own.call1 (L := []) H h3; clear H h3; have H := H2; clear H2)
  go_loopw [5, 6, 18] (fun v5 _ v18 wr => ∃ i : Nat, i ≤ 4 ∧ v18 = .int .i64 ((i : Nat) : Int) ∧ v5 = .int .u64 (beN xs i) ∧ Own w wr [(r, [.slice (some ⟨b, off, none⟩) n c, .bool false], 132)]) (fun _ _ v18 _ => ((4 : Nat) - intOf v18).toNat)
  case atStart => exact ⟨0, by omega, rfl, rfl, H⟩
  case round =>
    clear H
    obtain ⟨i, hi, rfl, rfl, H⟩ := hrel
    by_cases hin : i < 4
    · obtain ⟨hv0, hv1⟩ := hbr'.out i (by have := hn'.out; omega)
      have hv2 : beN xs i < 16777216 := by
        have : (256 : Int) ^ i ≤ 256 ^ 3 := by
          match i, hin with
          | 0, _ => decide
          | 1, _ => decide
          | 2, _ => decide
          | 3, _ => decide
        omega
      obtain ⟨hz0, hz1⟩ := hb'.out i (by have := hn'.out; omega)
      have hst : Hid (beN xs (i + 1) = beN xs i * 256 + xs[i]?.getD 0) := rfl
      have hz : Hid (∀ w', Own w w' [(r, [.slice (some ⟨b, off, none⟩) n c, .bool false], 132)] → w'.cell? ⟨b, off + i, none⟩ = some (.int .u8 (xs[i]?.getD 0))) := fun w' h => byte_of (hbk.out w' h) (by have := hn'.out; omega)
      obtain ⟨v, hv⟩ : ∃ v, v = beN xs i := ⟨_, rfl⟩
      obtain ⟨z, hzz⟩ : ∃ z, z = xs[i]?.getD 0 := ⟨_, rfl⟩
      rw [← hv] at hv0 hv2 hst ⊢
      rw [← hzz] at hz0 hz1 hst hz
      have hor := Lib.hid (or_u64 hv0 hv2 hz0 hz1)
      clear hv hzz hv1
      have hin4 : i < n := by omega
      go_wp2_with (first
        | (refine st_val rfl (rn_load (i := 0) H rfl rfl (.head _) rfl rfl rfl) ?_)
        | (refine st_val rfl (rn_cell rfl rfl rfl rfl (hz.out _ H)) ?_))
      exact ⟨⟨i + 1, by omega, by go_num, by rw [hst.out, ← hor.out], H⟩, by simp [intOf]; omega⟩
    · obtain rfl : i = 4 := by omega
      go_wp2_with (first
        | (refine st_val rfl (rn_load (i := 0) H rfl rfl (.head _) rfl rfl rfl) ?_)
        | (refine st_slEx rfl (sub_from (w := w) (m := 4) (n := n - 4) (sv := .slice (some ⟨b, off, none⟩) n c) rfl rfl size_u8 rfl hs'.out rfl rfl (by have := hn'.out; omega) hdl.out) ?_; intro p2 c2 hb2; have hb2' := Lib.hid hb2; clear hb2)
        | (refine st_skip rfl (rn_store (v := .slice p2 (n - 4) c2) H rfl rfl rfl (by kernel_rfl) .head (by simp) rfl) ?_; clear H; intro w4 H))
      have h1 := Lib.hid H
      go_ret
      exact ⟨rfl, p2, c2, h1.out, SlAt.own hb2'.out.1 h1.out (fun k hk hm => by simp at hm; exact hne'.out k (hb2'.out.2 k hk) hm), hb2'.out.2⟩

theorem sub_to {P : Program} {o : Oper} {a : Act} {w : World} {t : TypeId} {x : Operand} {hi : Operand} (ho : o.op = .slice t x none (some hi) none) {e : TypeId} (hu : P.underlying t = some (.slice e)) (hsz : (P.info? e).map (·.size) = some 1) {sv : Value} (hx : a.eval x = sv) {xs : List Int} (hs : BytesAt w sv xs) {m : Nat} {z : Int} (hl : a.eval hi = .int .i64 z) (hz : z = (m : Int)) (hm : m ≤ xs.length) :
    ∃ p c, (∀ w', (execOp a.eval o).run P w' = .ok (.value (.slice p m c)) w') ∧ (BytesAt w (.slice p m c) (xs.take m) ∧ ∀ k, blk (Value.slice p m c) = some k → blk sv = some k) := by
  obtain ⟨p, c, h1, h2, h3⟩ := rn_sub (P := P) (o := o) (a := a) (w := w) (l := 0) (h := m) (m := m) ho hu hsz hx hs (length_ints _ _) (by exact .no _) (by simp only [Option.map_some, hl]; exact .yes hz) (Nat.zero_le _) hm (Nat.sub_zero m)
  refine ⟨p, c, h1, ?_, h3⟩
  have e1 : ((u8s xs).drop 0).take m = u8s (xs.take m) := by simp [ints, List.map_take]
  rw [e1] at h2
  have e2 : (xs.take m).length = m := by rw [List.length_take]; omega
  rw [BytesAt, e2]
  exact h2

set_option maxRecDepth 100000 in
set_option maxHeartbeats 4000000 in
theorem rnew_any (w : World) (v : Value) (bs : List Int) (hO : Old w v bs) (hl : bs.length ≤ 1000000) :
    Calls Try.prog 50 #[v] w fun e w' => ∃ r p c, e = .returned (.pointer (some ⟨r, 0, none⟩)) ∧ w.heap.size ≤ r ∧ BIn bs w' (.slice p bs.length c) ∧ (∀ k, blk (Value.slice p bs.length c) = some k → k ≠ r ∧ w.heap.size ≤ k) ∧ Own w w' [(r, [.slice p bs.length c, .bool false], 132)] := by
  have H := Own.refl w
  obtain ⟨p0, c0, rfl⟩ := hO.shape
  have O := Lib.hid hO
  obtain ⟨n, hn⟩ : ∃ n, n = bs.length := ⟨_, rfl⟩
  rw [← hn] at O hl ⊢
  have hn' := Lib.hid hn
  clear hO hn
  go_enter Try.func50, Try.ntmps50
  have tok1 : True := trivial
  go_wp2_with (first
    | (clear tok1; refine st_new rfl (rn_buildSlice (e := 5) (cs := u8s []) H rfl (fun w' => by kernel_rfl)) ?_; clear H; intro b w4 hb H; have B : Buf 5 .u8 w w4 [] (.slice (some ⟨b, 0, none⟩) 0 0) [] := Buf.lit (xs := []) H hb (by decide); clear H; have tok2 : True := trivial)
    | (clear tok2; refine st_app (ys := bs) rfl B elem_u8 rfl rfl rfl rfl (O.out.at B.own0 (by simp)) (by rw [← hn'.out]; simp; omega) (by rw [← hn'.out]; simp; omega) ?_; clear B; intro p6 c6 w6 B; have e0 : ([] : List Int).length + bs.length = n := (by rw [← hn'.out]; simp); rw [e0] at B ⊢; clear e0; rw [List.nil_append] at B; have tok3 : True := trivial)
    | (clear tok3; refine st_newG rfl (rn_box (cs := [.slice p6 n c6, .bool false]) (Own.refl w6) rfl rfl rfl) ?_; intro r w7 hr M))
  have h1 := Lib.hid (B.bytesAt)
  have h2 := Lib.hid (B.lt)
  have h3 := Lib.hid (B.own0)
  have h4 := Lib.hid (B.new)
  have M' := Lib.hid M
  clear B M
  go_ret
  refine ⟨r, p6, c6, rfl, Nat.le_trans h3.out.size hr, ⟨⟨_, _, by rw [hn'.out]⟩, SlAt.own h1.out M'.out (fun k hk hm => by simp at hm; have := h2.out k hk; omega), fun k hk => Nat.lt_of_lt_of_le (h2.out k hk) M'.out.size⟩, fun k hk => ⟨by have := h2.out k hk; omega, h4.out k hk⟩, h3.out.callNew M'.out hr⟩

set_option maxRecDepth 100000 in
set_option maxHeartbeats 4000000 in
theorem rraw_any (w : World) (r n c m : Nat) (p : Option Addr) (xs : List Int) (H0 : Own w w [(r, [.slice p n c, .bool false], 132)]) (hs : BytesAt w (.slice p n c) xs) (hn : n = xs.length) (hm : m ≤ n) (hn9 : n ≤ 1000000) (hne : ∀ k, blk (Value.slice p n c) = some k → k ≠ r) :
    Calls Try.prog 52 #[.pointer (some ⟨r, 0, none⟩), .int .i64 m] w fun e w' => ∃ v p' c', e = .returned v ∧ Buf 5 .u8 w w' [(r, [.slice p' (n - m) c', .bool false], 132)] v (xs.take m) ∧ BytesAt w' (.slice p' (n - m) c') (xs.drop m) ∧ ∀ k, blk (Value.slice p' (n - m) c') = some k → blk (Value.slice p n c) = some k := by
  have H := H0
  have hbl : Hid (∀ k, blk (Value.slice p n c) = some k → k < w.heap.size ∨ xs = []) := fun k hk => by
    rcases hs with ⟨_, _, h2⟩ | ⟨b, off, c2, h1, _, h3⟩
    · right
      cases xs with
      | nil => rfl
      | cons x xs => cases h2
    · cases xs with
      | nil => exact Or.inr rfl
      | cons x xs =>
        left
        cases h1
        obtain rfl := (blk_some hk).1
        exact World.block_lt_of_cell? w _ (h3 0 _ rfl)
  have hri := Lib.hid (fun w' (h : Own w w' [(r, [.slice p n c, .bool false], 132)]) => right_ok w' r n c m p (h.sub1 (.head _)) hm)
  have hn' := Lib.hid hn
  have hdl : Hid (xs.length - m = n - m) := by show _ = _; rw [hn]
  have htl : Hid ((xs.take m).length = m) := by show _ = _; rw [List.length_take, ← hn]; omega
  have hne' := Lib.hid hne
  have hs' := Lib.hid hs
  clear H0 hs hn hne
  go_enter Try.func52, Try.ntmps52
  have tok1 : True := trivial
  go_wp2_with (first
    | (clear tok1; go_at_call 80; refine (hri.out _ H).mono ?_; rintro e w1 ⟨rfl, h3⟩; have H2 := Own.call1 (L := []) H h3; clear H h3; have B : Buf 5 .u8 w w1 [(r, [.slice p n c, .bool false], 132)] (.slice none 0 0) [] := Buf.nil H2; clear H2; have tok2 : True := trivial)
    | (refine st_val rfl (rn_load (i := 0) B.own0 rfl rfl (.head _) rfl rfl rfl) ?_)
    | (clear tok2; refine st_slEx rfl (sub_to (w := w) (m := m) (sv := .slice p n c) rfl rfl size_u8 rfl hs'.out rfl rfl (by rw [← hn'.out]; exact hm)) ?_; intro p2 c2 hb2; have hb2' := Lib.hid hb2; clear hb2; have tok3 : True := trivial)
    | (clear tok3; refine st_app (ys := xs.take m) rfl B elem_u8 rfl rfl rfl rfl (by
        have h := SlAt.own hb2'.out.1 B.own0 (fun k hk hm2 => (by simp at hm2; exact hne'.out k (hb2'.out.2 k hk) hm2))
        exact h) (by rw [htl.out]; simp; omega) (by rw [htl.out]; simp; omega) ?_; clear B; intro p6 c6 w6 B; have e0 : ([] : List Int).length + (xs.take m).length = m := (by rw [htl.out]; simp); rw [e0] at B ⊢; clear e0; rw [List.nil_append] at B; have tok4 : True := trivial)
    | (clear tok4; refine st_slEx rfl (sub_from (w := w) (m := m) (n := n - m) (sv := .slice p n c) rfl rfl size_u8 rfl hs'.out rfl rfl (by rw [← hn'.out]; exact hm) hdl.out) ?_; intro p8 c8 hb8; have hb8' := Lib.hid hb8; clear hb8; have tok5 : True := trivial)
    | (clear tok5; refine st_bufSet (u := .slice p8 (n - m) c8) rfl B rfl rfl rfl (by kernel_rfl) (by simp) rfl ?_; clear B; intro w9 B))
  have h1 := Lib.hid B
  clear B
  go_ret
  exact ⟨_, p8, c8, rfl, h1.out, SlAt.own hb8'.out.1 h1.out.own0 (fun k hk hm2 => by simp at hm2; exact hne'.out k (hb8'.out.2 k hk) hm2), hb8'.out.2⟩

end Go.Proofs.Ytfihlmnbonnekaa
