/- pack.Reader: New, right, Num of four, Raw. And what stands on it. No condition. -/
import Derived.Test.YtfihlmnbonnekaaGreatPrgA
import Derived.Test.YtfihlmnbonnekaaGreatEffA
namespace Go.Proofs.YtfihlmnbonnekaaGreat
open Go.RowKit
set_option maxHeartbeats 32000000
theorem or_u64 {a z : Int} (h0 : 0 ≤ a) (h1 : a < 16777216) (h2 : 0 ≤ z) (h3 : z < 256) : bits .or .u64 (a * 256) z = a * 256 + z := by
 obtain ⟨A, rfl⟩ := Int.eq_ofNat_of_zero_le h0
 obtain ⟨Z, rfl⟩ := Int.eq_ofNat_of_zero_le h2
 have e1 : (A : Int) * 256 = ((A * 256 : Nat) : Int) := by omega
 rw [e1]
 show IntKind.u64.wrap ((BitVec.ofInt 64 ((A * 256 : Nat) : Int) ||| BitVec.ofInt 64 (Z : Int)).toNat : Int) = _
 have h := Nat.two_pow_add_eq_or_of_lt (i := 8) (b := Z) (by omega) A
 rw [BitVec.toNat_or, BitVec.ofInt_natCast, BitVec.ofInt_natCast, BitVec.toNat_ofNat, BitVec.toNat_ofNat, Nat.mod_eq_of_lt (show A * 256 < 2 ^ 64 by omega), Nat.mod_eq_of_lt (show Z < 2 ^ 64 by omega), show A * 256 = 2 ^ 8 * A by omega, ← h, IntKind.wrap_u64]
 omega
def beN (xs : List Int) : Nat → Int
 | 0 => 0
 | i + 1 => beN xs i * 256 + xs[i]?.getD 0
theorem beN_range {xs : List Int} (h : IsBytes xs) : ∀ i, i ≤ xs.length → 0 ≤ beN xs i ∧ beN xs i < 256 ^ i
 | 0, _ => by simp [beN]
 | i + 1, hi => by
   have h1 := beN_range h i (by omega)
   have h2 := h i (by omega)
   have h3 : (256 : Int) ^ (i + 1) = 256 ^ i * 256 := Int.pow_succ ..
   simp only [beN]
   rw [h3]
   omega
theorem beN_eq {xs : List Int} {cd : Int} (h : IsBytes xs) (h4 : 4 ≤ xs.length) (h0 : 1 ≤ cd) (h9 : cd ≤ 4) : (beN xs 4 = cd) ↔ xs.take 4 = numB cd 4 := by
 match xs, h4 with
 | a :: b :: c :: d :: ys, _ =>
   have ha := h 0 (by simp)
   have hb := h 1 (by simp)
   have hc := h 2 (by simp)
   have hd := h 3 (by simp)
   simp at ha hb hc hd
   have e : numB cd 4 = [0, 0, 0, cd] := by
    simp [numB, List.range_succ]
    omega
   rw [e]
   simp [beN]
   omega
set_option maxRecDepth 100000 in
theorem right_ok (w : World) (r n c m : Nat) (p : Option Addr) (H0 : Own w w [(r, [.slice p n c, .bool false], 130)]) (hm : m ≤ n) :
 Calls Tryz.prog 80 #[.pointer (some ⟨r, 0, none⟩), .int .i64 m] w fun e w' => e = .returned (.bool true) ∧ Own w w' [(r, [.slice p n c, .bool false], 130)] := by
 have H := H0
 have h0 : w.cell? ⟨r, 0, none⟩ = some (.slice p n c) := H.cell (.head _) 0
 have h1 : w.cell? ⟨r, 1, none⟩ = some (.bool false) := H.cell (.head _) 1
 have hd : Hid ((decide ((m : Int) < 0) || decide (n < m)) = false) := by show _ = _; rw [decide_eq_false (by omega), decide_eq_false (by omega)]; rfl
 clear H0
 go_enter Tryz.func80, Tryz.ntmps80
 go_wp2_with (first
  | (refine st_skip rfl (rn_store (v := .bool (decide ((m : Int) < 0) || decide (n < m))) H rfl rfl rfl (by kernel_rfl) .head (by simp) rfl) ?_; clear H; intro w1 H; rw [hd.out] at H)
  | (refine st_val rfl (rn_load (i := 1) H rfl rfl (.head _) rfl rfl rfl) ?_))
 have h2 := Hh H
 go_ret
 exact ⟨rfl, h2.out⟩
theorem sub_from {P : Program} {o : Oper} {a : Act} {w : World} {t : TypeId} {x : Operand} {lo : Operand} (ho : o.op = .slice t x (some lo) none none) {e : TypeId} (hu : P.underlying t = some (.slice e)) (hsz : (P.info? e).map (·.size) = some 1) {sv : Value} (hx : a.eval x = sv) {xs : List Int} (hs : BytesAt w sv xs) {m : Nat} {z : Int} (hl : a.eval lo = .int .i64 z) (hz : z = (m : Int)) (hm : m ≤ xs.length) {n : Nat} (hn : xs.length - m = n) :
 ∃ p c, (∀ w', (execOp a.eval o).run P w' = .ok (.value (.slice p n c)) w') ∧ (BytesAt w (.slice p n c) (xs.drop m) ∧ ∀ k, blk (Value.slice p n c) = some k → blk sv = some k) := by
 obtain ⟨p, c, h1, h2, h3⟩ := rn_sub (P := P) (o := o) (a := a) (w := w) (l := m) (h := xs.length) (m := n) ho hu hsz hx hs (length_ints _ _) (by simp only [Option.map_some, hl]; exact .yes hz) (by exact .no _) hm (Nat.le_refl _) hn
 refine ⟨p, c, h1, ?_, h3⟩
 have e1 : ((u8s xs).drop m).take n = u8s (xs.drop m) := by
  rw [List.take_of_length_le (by simp; omega)]
  simp [ints, List.map_drop]
 rw [e1] at h2
 have e2 : (xs.drop m).length = n := by rw [List.length_drop]; exact hn
 rw [BytesAt, e2]
 exact h2
set_option maxRecDepth 100000 in
theorem rnum4_any (w : World) (r n c : Nat) (p : Option Addr) (xs : List Int) (H0 : Own w w [(r, [.slice p n c, .bool false], 130)]) (hs : BytesAt w (.slice p n c) xs) (hn : n = xs.length) (h4 : 4 ≤ n) (hn9 : n ≤ 1000000) (hb : IsBytes xs) (hne : ∀ k, blk (Value.slice p n c) = some k → k ≠ r) :
 Calls Tryz.prog 49 #[.pointer (some ⟨r, 0, none⟩), .int .i64 4] w fun e w' => e = .returned (.int .u64 (beN xs 4)) ∧ ∃ p' c', Own w w' [(r, [.slice p' (n - 4) c', .bool false], 130)] ∧ BytesAt w' (.slice p' (n - 4) c') (xs.drop 4) ∧ ∀ k, blk (Value.slice p' (n - 4) c') = some k → blk (Value.slice p n c) = some k := by
 have H := H0
 obtain ⟨b, off, hp⟩ := hs.addr (by omega)
 subst hp
 have hbr : b ≠ r := hne b (by
  rcases hs with ⟨⟨_, h1⟩, h0, _⟩ | ⟨_, _, _, h1, ⟨h2, _⟩, _⟩
  · omega
  · cases h1
    show (if c = 0 then none else some b) = some b
    rw [if_neg (by omega)])
 have hbk : Hid (∀ w', Own w w' [(r, [.slice (some ⟨b, off, none⟩) n c, .bool false], 130)] → BytesAt w' (.slice (some ⟨b, off, none⟩) n c) xs) := fun w' h => SlAt.own hs h (fun k hk hm => by simp at hm; exact hne k hk hm)
 have hri := Hh (fun w' (h : Own w w' [(r, [.slice (some ⟨b, off, none⟩) n c, .bool false], 130)]) => right_ok w' r n c 4 (some ⟨b, off, none⟩) (h.sub1 (.head _)) h4)
 have hbr' := Hh (fun i hi => beN_range hb i hi)
 have hb' := Hh hb
 have hn' := Hh hn
 have hdl : Hid (xs.length - 4 = n - 4) := by show _ = _; rw [hn]
 have hne' := Hh hne
 have hs' := Hh hs
 clear H0 hs hb hn hne hbr
 go_enter Tryz.func49, Tryz.ntmps49
 go_wp2_with (go_at_call 80; refine (hri.out _ H).mono ?_; rintro e w1 ⟨rfl, h3⟩; replace H := Own.call1 (L := []) H h3; clear h3)
 go_loopw [5, 6, 18] (fun v5 _ v18 wr => ∃ i : Nat, i ≤ 4 ∧ v18 = .int .i64 ((i : Nat) : Int) ∧ v5 = .int .u64 (beN xs i) ∧ Own w wr [(r, [.slice (some ⟨b, off, none⟩) n c, .bool false], 130)]) (fun _ _ v18 _ => ((4 : Nat) - intOf v18).toNat)
 case atStart => exact ⟨0, by omega, rfl, rfl, H⟩
 case round =>
  clear H
  obtain ⟨i, hi, rfl, rfl, H⟩ := hrel
  by_cases hin : i < 4
  · obtain ⟨hv0, hv1⟩ := hbr'.out i (by have := hn'.out; omega)
    have hv2 : beN xs i < 16777216 := by
     have : (256 : Int) ^ i ≤ 256 ^ 3 := by
      match i, hin with
      | 0, _ => decide
      | 1, _ => decide
      | 2, _ => decide
      | 3, _ => decide
     omega
    obtain ⟨hz0, hz1⟩ := hb'.out i (by have := hn'.out; omega)
    have hst : Hid (beN xs (i + 1) = beN xs i * 256 + xs[i]?.getD 0) := rfl
    have hz : Hid (∀ w', Own w w' [(r, [.slice (some ⟨b, off, none⟩) n c, .bool false], 130)] → w'.cell? ⟨b, off + i, none⟩ = some (.int .u8 (xs[i]?.getD 0))) := fun w' h => byte_of (hbk.out w' h) (by have := hn'.out; omega)
    obtain ⟨v, hv⟩ : ∃ v, v = beN xs i := ⟨_, rfl⟩
    obtain ⟨z, hzz⟩ : ∃ z, z = xs[i]?.getD 0 := ⟨_, rfl⟩
    rw [← hv] at hv0 hv2 hst ⊢
    rw [← hzz] at hz0 hz1 hst hz
    have hor := Hh (or_u64 hv0 hv2 hz0 hz1)
    clear hv hzz hv1
    have hin4 : i < n := by omega
    go_wp2_with (first
     | (refine st_val rfl (rn_load (i := 0) H rfl rfl (.head _) rfl rfl rfl) ?_)
     | (refine st_val rfl (rn_cell rfl rfl rfl rfl (hz.out _ H)) ?_))
    exact ⟨⟨i + 1, by omega, by go_num, by rw [hst.out, ← hor.out], H⟩, by simp [intOf]; omega⟩
  · obtain rfl : i = 4 := by omega
    go_wp2_with (first
     | (refine st_val rfl (rn_load (i := 0) H rfl rfl (.head _) rfl rfl rfl) ?_)
     | (refine st_slEx rfl (sub_from (w := w) (m := 4) (n := n - 4) (sv := .slice (some ⟨b, off, none⟩) n c) rfl rfl size_u8 rfl hs'.out rfl rfl (by have := hn'.out; omega) hdl.out) ?_; intro p2 c2 hb2; have hb2' := Hh hb2; clear hb2)
     | (refine st_skip rfl (rn_store (v := .slice p2 (n - 4) c2) H rfl rfl rfl (by kernel_rfl) .head (by simp) rfl) ?_; clear H; intro w4 H))
    have h1 := Hh H
    go_ret
    exact ⟨rfl, p2, c2, h1.out, SlAt.own hb2'.out.1 h1.out (fun k hk hm => by simp at hm; exact hne'.out k (hb2'.out.2 k hk) hm), hb2'.out.2⟩
theorem sub_to {P : Program} {o : Oper} {a : Act} {w : World} {t : TypeId} {x : Operand} {hi : Operand} (ho : o.op = .slice t x none (some hi) none) {e : TypeId} (hu : P.underlying t = some (.slice e)) (hsz : (P.info? e).map (·.size) = some 1) {sv : Value} (hx : a.eval x = sv) {xs : List Int} (hs : BytesAt w sv xs) {m : Nat} {z : Int} (hl : a.eval hi = .int .i64 z) (hz : z = (m : Int)) (hm : m ≤ xs.length) :
 ∃ p c, (∀ w', (execOp a.eval o).run P w' = .ok (.value (.slice p m c)) w') ∧ (BytesAt w (.slice p m c) (xs.take m) ∧ ∀ k, blk (Value.slice p m c) = some k → blk sv = some k) := by
 obtain ⟨p, c, h1, h2, h3⟩ := rn_sub (P := P) (o := o) (a := a) (w := w) (l := 0) (h := m) (m := m) ho hu hsz hx hs (length_ints _ _) (by exact .no _) (by simp only [Option.map_some, hl]; exact .yes hz) (Nat.zero_le _) hm (Nat.sub_zero m)
 refine ⟨p, c, h1, ?_, h3⟩
 have e1 : ((u8s xs).drop 0).take m = u8s (xs.take m) := by simp [ints, List.map_take]
 rw [e1] at h2
 have e2 : (xs.take m).length = m := by rw [List.length_take]; omega
 rw [BytesAt, e2]
 exact h2
set_option maxRecDepth 100000 in
theorem rnew_any (w : World) (v : Value) (bs : List Int) (hO : Old w v bs) (hl : bs.length ≤ 1000000) :
 Calls Tryz.prog 48 #[v] w fun e w' => ∃ r p c, e = .returned (.pointer (some ⟨r, 0, none⟩)) ∧ w.heap.size ≤ r ∧ BIn bs w' (.slice p bs.length c) ∧ (∀ k, blk (Value.slice p bs.length c) = some k → k ≠ r ∧ w.heap.size ≤ k) ∧ Own w w' [(r, [.slice p bs.length c, .bool false], 130)] := by
 have H := Own.refl w
 obtain ⟨p0, c0, rfl⟩ := hO.shape
 have O := Hh hO
 obtain ⟨n, hn⟩ : ∃ n, n = bs.length := ⟨_, rfl⟩
 rw [← hn] at O hl ⊢
 have hn' := Hh hn
 clear hO hn
 go_enter Tryz.func48, Tryz.ntmps48
 have z1 := tt
 go_wp2_with (first
  | (clear z1; refine st_new rfl (rn_buildSlice (e := 5) (cs := u8s []) H rfl (fun w' => by kernel_rfl)) ?_; clear H; intro b w4 hb H; have B : Buf 5 .u8 w w4 [] (.slice (some ⟨b, 0, none⟩) 0 0) [] := Buf.lit (xs := []) H hb (by decide); clear H; have z2 := tt)
  | (clear z2; refine st_app (ys := bs) rfl B elem_u8 rfl rfl rfl rfl (O.out.at B.own0 (by simp)) (by rw [← hn'.out]; simp; omega) (by rw [← hn'.out]; simp; omega) ?_; clear B; intro p6 c6 w6 B; have e0 : ([] : List Int).length + bs.length = n := (by rw [← hn'.out]; simp); rw [e0] at B ⊢; clear e0; rw [List.nil_append] at B; have z3 := tt)
  | (clear z3; refine st_newG rfl (rn_box (cs := [.slice p6 n c6, .bool false]) (Own.refl w6) rfl rfl rfl) ?_; intro r w7 hr M))
 have h1 := Hh (B.bytesAt)
 have h2 := Hh (B.lt)
 have h3 := Hh (B.own0)
 have h4 := Hh (B.new)
 have M' := Hh M
 clear B M
 go_ret
 refine ⟨r, p6, c6, rfl, Nat.le_trans h3.out.size hr, ⟨⟨_, _, by rw [hn'.out]⟩, SlAt.own h1.out M'.out (fun k hk hm => by simp at hm; have := h2.out k hk; omega), fun k hk => Nat.lt_of_lt_of_le (h2.out k hk) M'.out.size⟩, fun k hk => ⟨by have := h2.out k hk; omega, h4.out k hk⟩, h3.out.callNew M'.out hr⟩
set_option maxRecDepth 100000 in
theorem rraw_any (w : World) (r n c m : Nat) (p : Option Addr) (xs : List Int) (H0 : Own w w [(r, [.slice p n c, .bool false], 130)]) (hs : BytesAt w (.slice p n c) xs) (hn : n = xs.length) (hm : m ≤ n) (hn9 : n ≤ 1000000) (hne : ∀ k, blk (Value.slice p n c) = some k → k ≠ r) :
 Calls Tryz.prog 50 #[.pointer (some ⟨r, 0, none⟩), .int .i64 m] w fun e w' => ∃ v p' c', e = .returned v ∧ Buf 5 .u8 w w' [(r, [.slice p' (n - m) c', .bool false], 130)] v (xs.take m) ∧ BytesAt w' (.slice p' (n - m) c') (xs.drop m) ∧ ∀ k, blk (Value.slice p' (n - m) c') = some k → blk (Value.slice p n c) = some k := by
 have H := H0
 have hbl : Hid (∀ k, blk (Value.slice p n c) = some k → k < w.heap.size ∨ xs = []) := fun k hk => by
  rcases hs with ⟨_, _, h2⟩ | ⟨b, off, c2, h1, _, h3⟩
  · right
    cases xs with
    | nil => rfl
    | cons x xs => cases h2
  · cases xs with
    | nil => exact Or.inr rfl
    | cons x xs =>
      left
      cases h1
      obtain rfl := (blk_some hk).1
      exact World.block_lt_of_cell? w _ (h3 0 _ rfl)
 have hri := Hh (fun w' (h : Own w w' [(r, [.slice p n c, .bool false], 130)]) => right_ok w' r n c m p (h.sub1 (.head _)) hm)
 have hn' := Hh hn
 have hdl : Hid (xs.length - m = n - m) := by show _ = _; rw [hn]
 have htl : Hid ((xs.take m).length = m) := by show _ = _; rw [List.length_take, ← hn]; omega
 have hne' := Hh hne
 have hs' := Hh hs
 clear H0 hs hn hne
 go_enter Tryz.func50, Tryz.ntmps50
 have z1 := tt
 go_wp2_with (first
  | (clear z1; go_at_call 80; refine (hri.out _ H).mono ?_; rintro e w1 ⟨rfl, h3⟩; have H2 := Own.call1 (L := []) H h3; clear H h3; have B : Buf 5 .u8 w w1 [(r, [.slice p n c, .bool false], 130)] (.slice none 0 0) [] := Buf.nil H2; clear H2; have z2 := tt)
  | (refine st_val rfl (rn_load (i := 0) B.own0 rfl rfl (.head _) rfl rfl rfl) ?_)
  | (clear z2; refine st_slEx rfl (sub_to (w := w) (m := m) (sv := .slice p n c) rfl rfl size_u8 rfl hs'.out rfl rfl (by rw [← hn'.out]; exact hm)) ?_; intro p2 c2 hb2; have hb2' := Hh hb2; clear hb2; have z3 := tt)
  | (clear z3; refine st_app (ys := xs.take m) rfl B elem_u8 rfl rfl rfl rfl (by
      have h := SlAt.own hb2'.out.1 B.own0 (fun k hk hm2 => (by simp at hm2; exact hne'.out k (hb2'.out.2 k hk) hm2))
      exact h) (by rw [htl.out]; simp; omega) (by rw [htl.out]; simp; omega) ?_; clear B; intro p6 c6 w6 B; have e0 : ([] : List Int).length + (xs.take m).length = m := (by rw [htl.out]; simp); rw [e0] at B ⊢; clear e0; rw [List.nil_append] at B; have z4 := tt)
  | (clear z4; refine st_slEx rfl (sub_from (w := w) (m := m) (n := n - m) (sv := .slice p n c) rfl rfl size_u8 rfl hs'.out rfl rfl (by rw [← hn'.out]; exact hm) hdl.out) ?_; intro p8 c8 hb8; have hb8' := Hh hb8; clear hb8; have z5 := tt)
  | (clear z5; refine st_bufSet (u := .slice p8 (n - m) c8) rfl B rfl rfl rfl (by kernel_rfl) (by simp) rfl ?_; clear B; intro w9 B))
 have h1 := Hh B
 clear B
 go_ret
 exact ⟨_, p8, c8, rfl, h1.out, SlAt.own hb8'.out.1 h1.out.own0 (fun k hk hm2 => by simp at hm2; exact hne'.out k (hb8'.out.2 k hk) hm2), hb8'.out.2⟩
end Go.Proofs.YtfihlmnbonnekaaGreat
namespace Go.Proofs.YtfihlmnbonnekaaGreat
open Go.RowKit
theorem rn_arrAt {P : Program} {o : Oper} {a : Act} {w : World} {t e : TypeId} {x : Operand} {n len c : Nat} {ad : Option Addr} (ho : o.op = .sliceToArrayPointer t x) (hu : P.underlying t = some (.array n e)) (hx : a.eval x = .slice ad len c) (hn : n ≤ len) : (execOp a.eval o).run P w = .ok (.value (.pointer ad)) w := by
 unfold execOp
 have h : ¬ len < n := by omega
 simp [ho, hx, Instr.arrayAt, Sem.run_bind, run_underlying hu, h]
def UCell (B : Nat) (ys : List Int) (w : World) (g : Nat) : Prop := ∃ cs, B ≤ g ∧ w.heap[g]? = some (.cells (List.toArray cs) 5 (0, 0)) ∧ cs.take ys.length = u8s ys
def UIn (B : Nat) (ys : List Int) : World → Value → Prop := fun w v => ∃ g c, v = .slice (some ⟨g, 0, none⟩) ys.length c ∧ ys.length ≤ c ∧ UCell B ys w g
def PIn (B : Nat) (ys : List Int) : World → Value → Prop := fun w v => ∃ g, v = .pointer (some ⟨g, 0, none⟩) ∧ UCell B ys w g
theorem UCell.mono {B : Nat} {ys : List Int} {w w' : World} {g : Nat} (h : UCell B ys w g) (ho : Own w w' []) : UCell B ys w' g := by
 obtain ⟨cs, h1, h2, h3⟩ := h
 exact ⟨cs, h1, by rw [ho.keep g (Array.getElem?_eq_some_iff.1 h2).1 (by simp)]; exact h2, h3⟩
theorem UIn.mono (B : Nat) (ys : List Int) : Mono (UIn B ys) := fun _ _ _ h ⟨g, c, h1, h0, h2⟩ => ⟨g, c, h1, h0, h2.mono h⟩
theorem PIn.mono (B : Nat) (ys : List Int) : Mono (PIn B ys) := fun _ _ _ h ⟨g, h1, h2⟩ => ⟨g, h1, h2.mono h⟩
theorem UCell.chE {B : Nat} {ys : List Int} {w w' : World} {g : Nat} (h : UCell B ys w g) (he : ChE B w w') : UCell B ys w' g := by
 obtain ⟨cs, h1, h2, h3⟩ := h
 obtain ⟨c, p0, y1, y2, _, _, _, _, hc, ho⟩ := he
 have e : g ≠ c := by
  rintro rfl
  rw [hc] at h2
  have := Option.some.inj h2
  simp only [Obj.cells.injEq, and_true] at this
  exact absurd this.2 (by decide)
 exact ⟨cs, h1, by rw [ho.keep g (Array.getElem?_eq_some_iff.1 h2).1 (by simpa using e)]; exact h2, h3⟩
theorem UIn.presE {B : Nat} {ys : List Int} : ∀ w1 w2 v, ChE B w1 w2 → UIn B ys w1 v → UIn B ys w2 v := fun _ _ _ h ⟨g, c, h1, h0, h2⟩ => ⟨g, c, h1, h0, h2.chE h⟩
theorem PIn.presE {B : Nat} {ys : List Int} : ∀ w1 w2 v, ChE B w1 w2 → PIn B ys w1 v → PIn B ys w2 v := fun _ _ _ h ⟨g, h1, h2⟩ => ⟨g, h1, h2.chE h⟩
theorem UIn.bin {B : Nat} {ys : List Int} {w : World} {v : Value} (h : UIn B ys w v) : BIn ys w v := by
 obtain ⟨g, c, rfl, h0, cs, _, h2, h3⟩ := h
 refine ⟨⟨_, _, rfl⟩, Or.inr ⟨g, 0, c, rfl, ⟨h0, fun h => by rw [List.eq_nil_of_length_eq_zero h]; rfl⟩, fun i x hx => ?_⟩, fun k hk => ?_⟩
 · rw [Nat.zero_add, cell_of_row w g i _ _ _ h2]
   have hi : i < ys.length := by have := (List.getElem?_eq_some_iff.1 hx).1; simpa using this
   rw [← h3, List.getElem?_take_of_lt hi] at hx
   simpa using hx
 · obtain rfl := (blk_some hk).1
   exact (Array.getElem?_eq_some_iff.1 h2).1
def RdE (B r : Nat) : World → World → Prop := fun w1 w2 => r < B ∧ (∃ c d, (∀ k z, c ≠ .int k z) ∧ (∀ k z, d ≠ .int k z) ∧ w1.heap[r]? = some (.cells #[c, d] 130 (0, 0))) ∧ ∃ cs, Own w1 w2 [(r, cs, 130)]
theorem IsCh.presR {B r : Nat} {pre : List Int} : ∀ w1 w2 v, RdE B r w1 w2 → IsCh B pre w1 v → IsCh B pre w2 v := fun w1 w2 v ⟨hr, _, cs, ho⟩ ⟨c, ys, h1, h2, h3, h4, h5⟩ => ⟨c, ys, h1, h2, h3, h4, by rw [ho.keep c (Array.getElem?_eq_some_iff.1 h5).1 (by simp; omega)]; exact h5⟩
set_option maxRecDepth 100000 in
theorem candcl_any (w : World) (id : List Int) (h16 : id.length = 16) (q i t d : Nat) (hq : q < 32) (hi : i < 300) (ht : t ≤ 255) (hd : d ≤ t) (p5 p6 p12 p13 p15 r n c gd od C cd : Nat) (p : Option Addr) (xs : List Int) (hiC : i < C)
 (H0 : Own w w [(r, [.slice p n c, .bool false], 130)]) (hs : BytesAt w (.slice p n c) xs) (hn : n = xs.length) (hm : 32 ≤ n) (hn9 : n ≤ 1000000) (hne : ∀ k, blk (Value.slice p n c) = some k → k ≠ r)
 (h5 : ∀ j v, (u8s id)[j]? = some v → w.cell? ⟨p5, 0 + j, none⟩ = some v) (h6 : w.cell? ⟨p6, 0, none⟩ = some (.int .i64 q)) (h12 : w.cell? ⟨p12, 0, none⟩ = some (.pointer (some ⟨r, 0, none⟩))) (h13 : w.cell? ⟨p13, 0, none⟩ = some (.slice (some ⟨gd, od, none⟩) C cd)) (hdc : w.cell? ⟨gd, od + i, none⟩ = some (.int .i64 d)) (h15 : w.cell? ⟨p15, 0, none⟩ = some (.int .i64 t))
 (hlt : (p5 < w.heap.size ∧ p6 < w.heap.size ∧ p12 < w.heap.size ∧ p13 < w.heap.size ∧ p15 < w.heap.size ∧ gd < w.heap.size) ∧ (p5 ≠ r ∧ p6 ≠ r ∧ p12 ≠ r ∧ p13 ≠ r ∧ p15 ≠ r ∧ gd ≠ r)) :
 Calls Tryz.prog 82 #[.int .i64 i, .pointer (some ⟨p5, 0, none⟩), .pointer (some ⟨p6, 0, none⟩), .pointer (some ⟨p12, 0, none⟩), .pointer (some ⟨p13, 0, none⟩), .pointer (some ⟨p15, 0, none⟩)] w fun e w' => e = .returned (.agg (u8s (stepsC (pre22 id q i) d (xs.take 32) (t - d))).toArray) ∧ ∃ p' c', Own w w' [(r, [.slice p' (n - 32) c', .bool false], 130)] ∧ BytesAt w' (.slice p' (n - 32) c') (xs.drop 32) ∧ ∀ k, blk (Value.slice p' (n - 32) c') = some k → blk (Value.slice p n c) = some k := by
 have H := H0
 have hal : Hid (∀ B w', B ≤ w'.heap.size → Calls Tryz.prog 75 #[.agg (u8s id).toArray, .int .i64 q, .int .i64 i] w' fun e w'' => ∃ r, e = .returned r ∧ IsCh B (pre22 id q i) w'' r ∧ Own w' w'' []) := fun B w' h => along_ch B w' id h16 q i hq (by omega) h
 obtain ⟨x, hx⟩ : ∃ x, x = xs.take 32 := ⟨_, rfl⟩
 have hxl : x.length = 32 := by rw [hx, List.length_take]; omega
 obtain ⟨pre, hpre⟩ : ∃ p, p = pre22 id q i := ⟨_, rfl⟩
 obtain ⟨R, hR⟩ : ∃ R, R = stepsC pre d x (t - d) := ⟨_, rfl⟩
 have hRl : Hid (R.length = 32) := by show _ = _; rw [hR]; exact length_stepsC hxl _
 rw [← hx, ← hpre, ← hR]
 rw [← hpre] at hal
 have hwk : Hid (∀ (B : Nat) (w0 w' : World) (L : List Ent) (v : Value), IsCh B pre w' v → Own w0 w' L → w0.heap.size ≤ B → (∀ k ∈ L.map (·.1), k < B) → Calls Tryz.prog 76 #[v, .agg (u8s x).toArray, .int .i64 d, .int .i64 t] w' fun e w'' => e = .returned (.agg (u8s R).toArray) ∧ ChE B w' w'' ∧ Own w0 w'' L) := fun B w0 w' L v h1 h2 h3 h4 => by
  have h := walk_ch h1 h2 h3 h4 d t hd (by omega) x hxl
  rw [← hR] at h
  exact h
 have hrl : r < w.heap.size := H.lt (.head _)
 have hraw : Hid (∀ w', Own w' w' [(r, [.slice p n c, .bool false], 130)] → BytesAt w' (.slice p n c) xs → Calls Tryz.prog 50 #[.pointer (some ⟨r, 0, none⟩), .int .i64 32] w' fun e w'' => ∃ v p' c', e = .returned v ∧ Buf 5 .u8 w' w'' [(r, [.slice p' (n - 32) c', .bool false], 130)] v x ∧ BytesAt w'' (.slice p' (n - 32) c') (xs.drop 32) ∧ ∀ k, blk (Value.slice p' (n - 32) c') = some k → blk (Value.slice p n c) = some k) := fun w' h1 h2 => by rw [hx]; exact rraw_any w' r n c 32 p xs h1 h2 hn hm hn9 hne
 have hbs : Hid (∀ w' L, Own w w' L → (∀ k ∈ L.map (·.1), k = r ∨ w.heap.size ≤ k) → BytesAt w' (.slice p n c) xs) := fun w' L h hL => by
  rcases hs with ⟨⟨_, e1⟩, e2, e3⟩ | ⟨b, off, c2, e1, e2, e3⟩
  · exact Or.inl ⟨⟨_, e1⟩, e2, e3⟩
  · refine Or.inr ⟨b, off, c2, e1, e2, fun j v hj => h.old (e3 j v hj) (fun hm2 => ?_)⟩
    have e4 : b < w.heap.size := World.block_lt_of_cell? w _ (e3 j v hj)
    rcases hL _ hm2 with e5 | e5
    · exact hne b (by
       cases e1
       show (if c = 0 then none else some b) = some b
       rw [if_neg (by omega)]) e5
    · omega
 have hbl : Hid (∀ k, blk (Value.slice p n c) = some k → k < w.heap.size) := fun k hk => by
  rcases hs with ⟨_, e2, e3⟩ | ⟨b, off, c2, e1, e2, e3⟩
  · omega
  · cases e1
    obtain rfl := (blk_some hk).1
    obtain ⟨y, hy⟩ : ∃ y, (u8s xs)[0]? = some y := ⟨_, ints_get (by omega)⟩
    exact World.block_lt_of_cell? w _ (e3 0 y hy)
 have hsz := Hh (size_idL h16)
 have hszx := Hh (size_hashL hxl)
 have hxl' := Hh hxl
 obtain ⟨⟨l5, l6, l12, l13, l15, lgd⟩, e5, e6, e12, e13, e15, egd⟩ := hlt
 have c5 : Hid (∀ w' L, Own w w' L → (∀ k ∈ L.map (·.1), k = r ∨ w.heap.size ≤ k) → ∀ j v, (u8s id)[j]? = some v → w'.cell? ⟨p5, 0 + j, none⟩ = some v) := fun w' L h hL j v hj => h.old (h5 j v hj) (fun hm2 => by have := hL _ hm2; omega)
 have c6 : Hid (∀ w' L, Own w w' L → (∀ k ∈ L.map (·.1), k = r ∨ w.heap.size ≤ k) → w'.cell? ⟨p6, 0, none⟩ = some (.int .i64 q)) := fun w' L h hL => h.old h6 (fun hm2 => by have := hL _ hm2; omega)
 have c12 : Hid (∀ w' L, Own w w' L → (∀ k ∈ L.map (·.1), k = r ∨ w.heap.size ≤ k) → w'.cell? ⟨p12, 0, none⟩ = some (.pointer (some ⟨r, 0, none⟩))) := fun w' L h hL => h.old h12 (fun hm2 => by have := hL _ hm2; omega)
 have c13 : Hid (∀ w' L, Own w w' L → (∀ k ∈ L.map (·.1), k = r ∨ w.heap.size ≤ k) → w'.cell? ⟨p13, 0, none⟩ = some (.slice (some ⟨gd, od, none⟩) C cd)) := fun w' L h hL => h.old h13 (fun hm2 => by have := hL _ hm2; omega)
 have c15 : Hid (∀ w' L, Own w w' L → (∀ k ∈ L.map (·.1), k = r ∨ w.heap.size ≤ k) → w'.cell? ⟨p15, 0, none⟩ = some (.int .i64 t)) := fun w' L h hL => h.old h15 (fun hm2 => by have := hL _ hm2; omega)
 have cdc : Hid (∀ w' L, Own w w' L → (∀ k ∈ L.map (·.1), k = r ∨ w.heap.size ≤ k) → w'.cell? ⟨gd, od + i, none⟩ = some (.int .i64 d)) := fun w' L h hL => h.old hdc (fun hm2 => by have := hL _ hm2; omega)
 have hrl' := Hh hrl
 clear H0 hs hn hne h5 h6 h12 h13 hdc h15 l5 l6 l12 l13 l15 lgd e5 e6 e12 e13 e15 egd hxl hR hx hpre h16 hrl
 go_enter Tryz.func82, Tryz.ntmps82
 go_wp2_with (refine st_new rfl (rn_alloc H rfl info_hash) ?_; clear H; intro b7 w2 hb7 H)
 have hBk : Hid (∀ (cs : List Value) k, k ∈ ([(b7, u8s (List.replicate 32 0), 24), (r, cs, 130)] : List Ent).map (·.1) → k < w2.heap.size ∧ (k = r ∨ w.heap.size ≤ k)) := fun cs k hk => by
  simp only [List.map_cons, List.map_nil, List.mem_cons, List.not_mem_nil, or_false] at hk
  rcases hk with rfl | rfl
  · exact ⟨H.lt (.head _), Or.inr hb7⟩
  · exact ⟨H.lt (.tail _ (.head _)), Or.inl rfl⟩
 have hB0 := Hh H.size
 have hnd := Hh H.nodup
 have H2' := Hh H
 clear H
 obtain ⟨St, hSt⟩ : ∃ St : Nat → World → Prop, St = fun s w' => w2.heap.size ≤ w'.heap.size ∧ (match s with
  | 0 => Own w w' [(b7, u8s (List.replicate 32 0), 24), (r, [.slice p n c, .bool false], 130)]
  | _ => ∃ p' c', Own w w' [(b7, u8s (List.replicate 32 0), 24), (r, [.slice p' (n - 32) c', .bool false], 130)] ∧ BytesAt w' (.slice p' (n - 32) c') (xs.drop 32) ∧ ∀ k, blk (Value.slice p' (n - 32) c') = some k → blk (Value.slice p n c) = some k) := ⟨_, rfl⟩
 have hSa : Hid (∀ s w', St s w' → w2.heap.size ≤ w'.heap.size ∧ ∃ cs, Own w w' [(b7, u8s (List.replicate 32 0), 24), (r, cs, 130)]) := fun s w' h => by
  rw [hSt] at h
  cases s with
  | zero => exact ⟨h.1, _, h.2⟩
  | succ s => obtain ⟨h1, p', c', h2, _⟩ := h; exact ⟨h1, _, h2⟩
 have hSb : Hid (∀ w', (∃ s, St s w') → ∃ L, Own w w' L ∧ ∀ k ∈ L.map (·.1), k = r ∨ w.heap.size ≤ k) := fun w' ⟨s, h⟩ => by
  obtain ⟨_, cs, h2⟩ := hSa.out s w' h
  exact ⟨_, h2, fun k hk => (hBk.out cs k hk).2⟩
 have hS0 : Hid (∀ w', St 0 w' ↔ w2.heap.size ≤ w'.heap.size ∧ Own w w' [(b7, u8s (List.replicate 32 0), 24), (r, [.slice p n c, .bool false], 130)]) := fun w' => by rw [hSt]; exact Iff.rfl
 have hS1 : Hid (∀ s w', St (s + 1) w' ↔ w2.heap.size ≤ w'.heap.size ∧ ∃ p' c', Own w w' [(b7, u8s (List.replicate 32 0), 24), (r, [.slice p' (n - 32) c', .bool false], 130)] ∧ BytesAt w' (.slice p' (n - 32) c') (xs.drop 32) ∧ ∀ k, blk (Value.slice p' (n - 32) c') = some k → blk (Value.slice p n c) = some k) := fun s w' => by rw [hSt]; exact Iff.rfl
 have hSm : Hid (∀ s w1 w2, St s w1 → Own w1 w2 [] → St s w2) := fun s w1 w3 h1 h2 => by
  rw [hSt] at h1 ⊢
  cases s with
  | zero => exact ⟨Nat.le_trans h1.1 h2.size, h1.2.call0 h2⟩
  | succ s => obtain ⟨h3, p', c', h4, h5, h6⟩ := h1; exact ⟨Nat.le_trans h3 h2.size, p', c', h4.call0 h2, SlAt.own0 h5 h2, h6⟩
 clear hSt
 refine region_eff 14 (by kernel_rfl) (by kernel_rfl) (by kernel_rfl) [.val (.agg (u8s id).toArray), .val (.int .i64 q), .val (.int .i64 i), .rel (IsCh w2.heap.size pre), .val (.pointer (some ⟨r, 0, none⟩)), .eff (RdE w2.heap.size r) (UIn w2.heap.size x), .rel (PIn w2.heap.size x), .val (.agg (u8s x).toArray), .val (.slice (some ⟨gd, od, none⟩) C cd), .val (.int .i64 i), .val (.pointer (some ⟨gd, od + i, none⟩)), .val (.int .i64 d), .val (.int .i64 t), .eff (ChE w2.heap.size) (fun _ v => v = .agg (u8s R).toArray)] rfl ?_ (by kernel_rfl) St ((hS0.out _).2 ⟨Nat.le_refl _, H2'.out⟩) hSm.out ?_
 · simp only [eAll, eRow, Se.pres, or_true, true_and, and_true]
   exact ⟨⟨Or.inr (Or.inr IsCh.presR), Or.inl trivial, Or.inr (Or.inl (by kernel_rfl)), Or.inr (Or.inr fun _ _ _ _ h => h)⟩, Or.inr (Or.inr IsCh.presE), Or.inr (Or.inr UIn.presE), Or.inr (Or.inr PIn.presE), Or.inl trivial⟩
 have z3 := tt
 try go_frame
 repeat (first
  | (clear z3; refine se_run (v := .agg (u8s id).toArray) rfl (fun w' hw' _ => rn_cells rfl rfl rfl rfl hsz.out (by obtain ⟨L, q1, q2⟩ := hSb.out w' hw'; exact c5.out _ _ q1 q2)) ?_; go_frame; have z4 := tt)
  | (clear z4; refine se_run (v := .int .i64 q) rfl (fun w' hw' _ => rn_cell rfl rfl rfl rfl (by obtain ⟨L, q1, q2⟩ := hSb.out w' hw'; exact c6.out _ _ q1 q2)) ?_; go_frame; have z5 := tt)
  | (clear z5; refine se_callR (args := #[.agg (u8s id).toArray, .int .i64 q, .int .i64 i]) IsCh.mono rfl rfl (by simp [Act.eval]) Tryz.func75 (by kernel_rfl) (by kernel_rfl) (fun w' hw' _ => hal.out _ w' (by obtain ⟨s, q1⟩ := hw'; exact (hSa.out s w' q1).1)) ?_; intro v11; go_frame; have z6 := tt)
  | (clear z6; refine se_run (v := .pointer (some ⟨r, 0, none⟩)) rfl (fun w' hw' _ => rn_cell rfl rfl rfl rfl (by obtain ⟨L, q1, q2⟩ := hSb.out w' hw'; exact c12.out _ _ q1 q2)) ?_; go_frame; have z7 := tt)
  | (clear z7; refine se_callE (args := #[.pointer (some ⟨r, 0, none⟩), .int .i64 32]) (UIn.mono _ _) rfl rfl rfl (by simp [Act.eval]) Tryz.func50 (by kernel_rfl) (by kernel_rfl) (fun w' hS hF => ?_) ?_
     · obtain ⟨q1, q2⟩ := (hS0.out w').1 hS
       refine (hraw.out w' (q2.sub1 (.tail _ (.head _))) (hbs.out w' _ q2 (fun k hk => (hBk.out _ k hk).2))).mono ?_
       rintro e w'' ⟨v, p', c', rfl, ⟨Lv, ⟨g1, g2⟩, g3, g4⟩, q3, q4⟩
       have ho := Own.drop g3 g4
       refine ⟨v, rfl, ?_, ⟨Nat.lt_of_lt_of_le hrl'.out hB0.out, ⟨.slice p n c, .bool false, (fun _ _ h => by cases h), (fun _ _ h => by cases h), q2.here _ _ _ (.tail _ (.head _))⟩, _, ho⟩, (hS1.out 0 w'').2 ⟨Nat.le_trans q1 ho.size, p', c', Own.callAt (L1 := [_]) q2 ho, q3, q4⟩⟩
       rcases g2 with ⟨_, g5, _⟩ | ⟨g, cap, cs, g5, rfl, g6, g7, g8, g9⟩
       · have := hxl'.out; omega
       · exact ⟨g, cap, g5, g6, cs, Nat.le_trans q1 (g4 g (by simp)), g3.here _ _ _ (.head _), by rw [Nat.mul_one] at g9; exact g9⟩
     intro v13; go_frame; have z8 := tt)
  | (clear z8; refine se_rel (PIn.mono _ _) rfl (fun w' hw' hF => ?_) ?_
     · obtain ⟨g, c1, e1, _, q1⟩ := hF.2 _ rfl (mE (by kernel_rfl))
       subst e1
       exact yieldsTo_val' (rn_arrAt rfl rfl rfl (by rw [hxl'.out]; exact Nat.le_refl _)) ⟨Own.refl _, g, rfl, q1⟩
     intro v14; go_frame; have z9 := tt)
  | (clear z9; refine se_run (v := .agg (u8s x).toArray) rfl (fun w' hw' hF => ?_) ?_
     · obtain ⟨g, e1, cs, q0, q1, q2⟩ := hF.2 _ rfl (mE (by kernel_rfl))
       subst e1
       refine rn_cells rfl rfl rfl rfl hszx.out (fun j v hj => ?_)
       have hjl : j < (u8s x).length := (List.getElem?_eq_some_iff.1 hj).1
       rw [length_ints] at hjl
       rw [Nat.zero_add, cell_of_row w' g j _ _ _ q1]
       rw [← q2, List.getElem?_take_of_lt hjl] at hj
       simpa using hj
     go_frame; have z10 := tt)
  | (clear z10; refine se_run (v := .slice (some ⟨gd, od, none⟩) C cd) rfl (fun w' hw' _ => rn_cell rfl rfl rfl rfl (by obtain ⟨L, q1, q2⟩ := hSb.out w' hw'; exact c13.out _ _ q1 q2)) ?_; go_frame; have z11 := tt)
  | (clear z11; refine se_run (v := .int .i64 d) rfl (fun w' hw' _ => rn_cell rfl rfl rfl rfl (by obtain ⟨L, q1, q2⟩ := hSb.out w' hw'; exact cdc.out _ _ q1 q2)) ?_; go_frame; have z12 := tt)
  | (clear z12; refine se_run (v := .int .i64 t) rfl (fun w' hw' _ => rn_cell rfl rfl rfl rfl (by obtain ⟨L, q1, q2⟩ := hSb.out w' hw'; exact c15.out _ _ q1 q2)) ?_; go_frame; have z13 := tt)
  | (clear z13; refine se_callE (args := #[v11, .agg (u8s x).toArray, .int .i64 d, .int .i64 t]) (fun _ _ _ _ h => h) rfl rfl rfl (by simp [Act.eval]) Tryz.func76 (by kernel_rfl) (by kernel_rfl) (fun w' hS hF => ?_) ?_
     · obtain ⟨q1, p', c', q2, q3, q4⟩ := (hS1.out 0 w').1 hS
       refine (hwk.out _ _ _ _ _ (hF.1.1.2 _ rfl (mE (by kernel_rfl))) q2 hB0.out (fun k hk => (hBk.out _ k hk).1)).mono ?_
       rintro e w'' ⟨rfl, q5, q6⟩
       have q5' := q5
       obtain ⟨cc, p0, y1, y2, r1, _, _, _, r2, ho⟩ := q5'
       refine ⟨_, rfl, rfl, q5, (hS1.out 1 w'').2 ⟨Nat.le_trans q1 ho.size, p', c', q6, ?_, q4⟩⟩
       refine SlAt.own q3 ho (fun k hk hm2 => ?_)
       simp at hm2
       have hkw := hbl.out k (q4 k hk)
       have := hB0.out
       omega
     intro v21; go_frame)
  | (refine se_val (fun w' hw' hF => ?_) ⟨_, rfl, nB rfl⟩ ?_
     · go_big_quiet_step (fail)
       exact rfl
     try go_frame))
 refine se_nil ?_
 intro w5 hS hF
 have e21 := hF.2 _ rfl trivial
 subst e21
 obtain ⟨_, p', c', H, q3, q4⟩ := (hS1.out 1 w5).1 hS
 have q3' := Hh q3
 have q4' := Hh q4
 have M := H.sub1 (.head _)
 have H5 := Hh H
 clear H
 clear hS hF H2' hal hwk hraw hbs hSa hSb hS0 hS1 hSm c5 c6 c12 c13 c15 cdc q3 q4 hBk
 simp only [List.drop_succ_cons, List.drop_zero]
 go_wp2_with (refine st_skip rfl (rn_storeAll (vs := u8s R) M rfl rfl rfl (size_hashL hRl.out) .head (by rw [length_ints, length_ints, hRl.out]; rfl) (oneCell_ints _ _)) ?_; clear M; intro w8 M)
 refine fin_cell (cs := u8s R) rfl M rfl (.head _) rfl rfl (size_hashL hRl.out) rfl ⟨rfl, p', c', ?_, ?_, q4'.out⟩
 · exact Own.drop (L1 := [_]) (Own.call1 H5.out M) (by simpa using hb7)
 · refine SlAt.own q3'.out M (fun k hk hm2 => ?_)
   simp at hm2
   subst hm2
   have := hbl.out k (q4'.out k hk)
   omega
end Go.Proofs.YtfihlmnbonnekaaGreat
namespace Go.Proofs.YtfihlmnbonnekaaGreat
open Go.RowKit
theorem Own.self {w0 w : World} {L : List Ent} (H : Own w0 w L) : Own w w L := ⟨rfl, rfl, rfl, Nat.le_refl _, fun _ _ _ => rfl, H.nodup, H.here⟩
theorem Own.transNew {w0 w w' : World} {L L' : List Ent} (H : Own w0 w L) (hu : Own w w' L') (h1 : ∀ k ∈ L.map (·.1), w0.heap.size ≤ k) (h2 : ∀ k ∈ L'.map (·.1), w0.heap.size ≤ k) : Own w0 w' [] :=
 ⟨hu.os.trans H.os, hu.tape.trans H.tape, hu.output.trans H.output, Nat.le_trans H.size hu.size, fun k hk _ => (hu.keep k (Nat.lt_of_lt_of_le hk H.size) (fun hm => by have := h2 k hm; omega)).trans (H.keep k hk (fun hm => by have := h1 k hm; omega)), List.nodup_nil, fun _ _ _ h => by cases h⟩
theorem SlAt.back {w w' : World} {v : Value} {n : Nat} {xs : List Value} {L : List Ent} (h : SlAt w' v n xs) (ho : Own w w' L) (hn : ∀ k, blk v = some k → k ∉ L.map (·.1) ∧ k < w.heap.size) : SlAt w v n xs := by
 rcases h with h | ⟨b, off, cap, rfl, h2, h3⟩
 · exact Or.inl h
 · refine Or.inr ⟨b, off, cap, rfl, h2, fun i x hx => ?_⟩
   have h4 := h3 i x hx
   by_cases hc : cap = 0
   · have : n = 0 := by omega
     have := h2.2 this
     subst this
     simp at hx
   · obtain ⟨h5, h6⟩ := hn b (by show (if cap = 0 then none else some b) = some b; rw [if_neg hc])
     rw [← h4]
     exact (World.cell?_of_block (w := w) (ho.keep b h6 h5)).symm
def CeE (T : TypeId) (m : Nat) : World → World → Prop := fun w1 w2 => ∃ g cs cs', (cs.length = m ∧ ∀ c ∈ cs, ∀ k z, c ≠ Value.int k z) ∧ w1.heap[g]? = some (.cells (List.toArray cs) T (0, 0)) ∧ Own w1 w2 [(g, cs', T)] ∧ cs'.length = m ∧ ∀ c ∈ cs', ∀ k z, c ≠ Value.int k z
theorem RdE.ce {B r : Nat} {w1 w2 : World} (h : RdE B r w1 w2) : ∃ g cs cs', (∀ c ∈ cs, ∀ k z, c ≠ Value.int k z) ∧ w1.heap[g]? = some (.cells (List.toArray cs) 130 (0, 0)) ∧ Own w1 w2 [(g, cs', 130)] := by
 obtain ⟨_, ⟨c, d, hc, hd, h1⟩, cs, h2⟩ := h
 exact ⟨r, [c, d], cs, fun x hx => by
  simp only [List.mem_cons, List.not_mem_nil, or_false] at hx
  rcases hx with rfl | rfl
  · exact hc
  · exact hd, h1, h2⟩
theorem IIn.presG {k : IntKind} {xs : List Int} {w1 w2 : World} {v : Value} {g : Nat} {cs cs' : List Value} {T : TypeId} (hcs : ∀ c ∈ cs, ∀ k z, c ≠ Value.int k z) (hg : w1.heap[g]? = some (.cells (List.toArray cs) T (0, 0))) (ho : Own w1 w2 [(g, cs', T)]) (h : IIn k xs w1 v) : IIn k xs w2 v := by
 obtain ⟨h1, h2, h3⟩ := h
 refine ⟨h1, ?_, fun j hj => Nat.lt_of_lt_of_le (h3 j hj) ho.size⟩
 rcases h2 with h2 | ⟨b, off, cap, e1, e2, e3⟩
 · exact Or.inl h2
 · refine Or.inr ⟨b, off, cap, e1, e2, fun i x hx => ?_⟩
   have h4 := e3 i x hx
   by_cases e : b = g
   · subst e
     exfalso
     rw [cell_of_row w1 b (off + i) _ _ _ hg] at h4
     obtain ⟨z, hz⟩ : ∃ z, x = .int k z := by
      obtain ⟨hi, hx2⟩ := List.getElem?_eq_some_iff.1 hx
      exact ⟨xs[i]'(by simpa using hi), by rw [← hx2]; simp [ints]⟩
     subst hz
     have h5 : Value.int k z ∈ cs := List.mem_of_getElem? (by simpa using h4)
     exact hcs _ h5 k z rfl
   · rw [← h4]
     exact World.cell?_of_block (w := w1) (ho.keep b (World.block_lt_of_cell? w1 _ h4) (by simpa using e))
theorem IIn.presR {k : IntKind} {xs : List Int} {B r : Nat} : ∀ w1 w2 v, RdE B r w1 w2 → IIn k xs w1 v → IIn k xs w2 v := fun _ _ _ h h1 => by
 obtain ⟨g, cs, cs', a1, a2, a3⟩ := h.ce
 exact IIn.presG a1 a2 a3 h1
theorem IIn.presC {k : IntKind} {xs : List Int} {T : TypeId} {m : Nat} : ∀ w1 w2 v, CeE T m w1 w2 → IIn k xs w1 v → IIn k xs w2 v := fun _ _ _ ⟨_, _, _, a1, a2, a3, _⟩ h1 => IIn.presG a1.2 a2 a3 h1
theorem TupI.presR {xs : List Int} {B r : Nat} : ∀ w1 w2 v, RdE B r w1 w2 → TupI xs w1 v → TupI xs w2 v := fun _ _ _ h ⟨p, c, h1, h2⟩ => ⟨p, c, h1, IIn.presR _ _ _ h h2⟩
theorem TupI.presC {xs : List Int} {T : TypeId} {m : Nat} : ∀ w1 w2 v, CeE T m w1 w2 → TupI xs w1 v → TupI xs w2 v := fun _ _ _ h ⟨p, c, h1, h2⟩ => ⟨p, c, h1, IIn.presC _ _ _ h h2⟩
theorem UIn.presC {B : Nat} {ys : List Int} {T : TypeId} {m : Nat} (hT : T ≠ 5) : ∀ w1 w2 v, CeE T m w1 w2 → UIn B ys w1 v → UIn B ys w2 v := fun w1 w2 v ⟨g, cs, cs', _, a2, a3, _⟩ ⟨b, c, h1, h0, xs, h2, h3, h4⟩ => by
 have e : b ≠ g := by
  rintro rfl
  rw [a2] at h3
  have := Option.some.inj h3
  simp only [Obj.cells.injEq, and_true] at this
  exact hT this.2
 exact ⟨b, c, h1, h0, xs, h2, by rw [a3.keep b (Array.getElem?_eq_some_iff.1 h3).1 (by simpa using e)]; exact h3, h4⟩
def CellT (B : Nat) (T : TypeId) : World → Value → Prop := fun w v => ∃ g c, v = .pointer (some ⟨g, 0, none⟩) ∧ B ≤ g ∧ (∀ k z, c ≠ .int k z) ∧ w.heap[g]? = some (.cells #[c] T (0, 0))
theorem CellT.mono {B : Nat} {T : TypeId} : Mono (CellT B T) := fun w1 w2 v h ⟨g, c, h1, h2, h3, h4⟩ => ⟨g, c, h1, h2, h3, by rw [h.keep g (Array.getElem?_eq_some_iff.1 h4).1 (by simp)]; exact h4⟩
theorem cellT_alloc {P : Program} {o : Oper} {a : Act} {w1 : World} {ty : TypeId} {B : Nat} {c : Value} (ho : o.op = .alloc ty) (hz : ((P.info? ty).bind (·.zero)).map (fun z => z.cells.toList) = some [c]) (hc : ∀ k z, c ≠ .int k z) (hw : B ≤ w1.heap.size) :
 YieldsTo P o a w1 (fun v w' => Own w1 w' [] ∧ CellT B ty w' v) := by
 obtain ⟨n, w2, hr, hn, ho1⟩ := rn_alloc (P := P) (o := o) (a := a) (Own.refl w1) ho hz
 exact yieldsTo_val' hr ⟨ho1.end0 (by simpa using hn), n, c, rfl, Nat.le_trans hw hn, hc, ho1.here _ _ _ (.head _)⟩
theorem CellT.presR {B r : Nat} {T : TypeId} : ∀ w1 w2 v, RdE B r w1 w2 → CellT B T w1 v → CellT B T w2 v := fun w1 w2 v ⟨hr, _, cs, ho⟩ ⟨g, c, h1, h2, h3, h4⟩ => ⟨g, c, h1, h2, h3, by rw [ho.keep g (Array.getElem?_eq_some_iff.1 h4).1 (by simp; omega)]; exact h4⟩
theorem CellT.presC {B : Nat} {T U : TypeId} : ∀ w1 w2 v, CeE U 1 w1 w2 → CellT B T w1 v → CellT B T w2 v := fun w1 w2 v ⟨g, cs, cs', _, a2, a3, a4, a5⟩ ⟨b, c, h1, h2, h3, h4⟩ => by
 by_cases e : b = g
 · subst e
   rw [a2] at h4
   have h5 := Option.some.inj h4
   simp only [Obj.cells.injEq, and_true] at h5
   match cs', a4, a5, a3 with
   | [c'], _, a5, a3 => exact ⟨b, c', h1, h2, a5 c' (.head _), by rw [← h5.2]; exact a3.here _ _ _ (.head _)⟩
 · exact ⟨b, c, h1, h2, h3, by rw [a3.keep b (Array.getElem?_eq_some_iff.1 h4).1 (by simpa using e)]; exact h4⟩
theorem BytesAt.presC {T : TypeId} {m : Nat} {w1 w2 : World} {v : Value} {bs : List Int} (he : CeE T m w1 w2) (h : BIn bs w1 v) : BIn bs w2 v := IIn.presC (k := .u8) _ _ _ he h
theorem LitL.presC {T : TypeId} {ls : List (List Int)} (hl : 2 ≤ ls.length) : ∀ w1 w2 v, CeE T 1 w1 w2 → LitL ls w1 v → LitL ls w2 v := fun w1 w2 v he ⟨l, h1, h2⟩ => by
 have he' := he
 obtain ⟨g, cs, cs', ⟨a0, a1⟩, a2, a3, _⟩ := he'
 have hll : l.length = ls.length := by rw [← h2, List.length_map]
 refine ⟨l, ⟨?_, fun k hk => Nat.lt_of_lt_of_le (h1.lt k hk) a3.size, fun i x hx => ?_⟩, h2⟩
 · rcases h1.sl with h3 | ⟨b, off, cap, e1, e2, e3⟩
   · exact Or.inl h3
   · refine Or.inr ⟨b, off, cap, e1, e2, fun i x hx => ?_⟩
     have h4 := e3 i x hx
     by_cases e : b = g
     · exfalso
       subst e
       obtain ⟨y, hy⟩ : ∃ y, (l.map (·.1))[1]? = some y := ⟨_, List.getElem?_eq_getElem (by simp; omega)⟩
       have h5 := e3 1 y hy
       rw [cell_of_row w1 b (off + 1) _ _ _ a2] at h5
       have h6 : off + 1 < cs.length := (List.getElem?_eq_some_iff.1 (by simpa using h5)).1
       omega
     · rw [← h4]
       exact World.cell?_of_block (w := w1) (a3.keep b (World.block_lt_of_cell? w1 _ h4) (by simpa using e))
 · obtain ⟨o1, o2, o3⟩ := h1.el i x hx
   have := BytesAt.presC he (o1.bin)
   exact ⟨⟨this.2.1, this.2.2⟩, o2, o3⟩
end Go.Proofs.YtfihlmnbonnekaaGreat
namespace Go.Proofs.YtfihlmnbonnekaaGreat
open Go.RowKit
theorem info_rp : ((Tryz.prog.info? 89).bind (·.zero)).map (fun z => z.cells.toList) = some [.pointer none] := by kernel_rfl
theorem info_ints : ((Tryz.prog.info? 120).bind (·.zero)).map (fun z => z.cells.toList) = some [.slice none 0 0] := by kernel_rfl
theorem long_k (w : World) (k : Nat) (hk : k = 1 ∨ k = 2 ∨ k = 4 ∨ k = 8) : Calls Tryz.prog 46 #[.int .i64 k] w fun e w' => e = .returned (.int .i64 ((36 + 32 * chN k : Nat) : Int)) ∧ Own w w' [] := by
 rcases hk with rfl | rfl | rfl | rfl <;> exact long_any w _
def pieceOf (sig : List Int) (n : Nat) : List Int := ((sig.drop (36 + 32 * n)).take 32 ++ List.replicate 32 0).take 32
theorem length_pieceOf (sig : List Int) (n : Nat) : (pieceOf sig n).length = 32 := by simp [pieceOf]
theorem pieceOf_eq {sig : List Int} {n : Nat} (h : 36 + 32 * n + 32 ≤ sig.length) : pieceOf sig n = (sig.drop (36 + 32 * n)).take 32 := by
 unfold pieceOf
 rw [List.take_left' (by rw [List.length_take, List.length_drop]; omega)]
theorem isBytes_mem {xs : List Int} : IsBytes xs ↔ ∀ x ∈ xs, 0 ≤ x ∧ x < 256 := by
 constructor
 · intro h x hx
   obtain ⟨i, hi, rfl⟩ := List.getElem_of_mem hx
   have := h i hi
   simpa [hi] using this
 · intro h i hi
   have e : xs[i]?.getD 0 = xs[i] := by simp [hi]
   rw [e]
   exact h _ (List.getElem_mem hi)
theorem isBytes_take {xs : List Int} (h : IsBytes xs) (n : Nat) : IsBytes (xs.take n) := isBytes_mem.2 fun x hx => isBytes_mem.1 h x (List.mem_of_mem_take hx)
theorem isBytes_drop {xs : List Int} (h : IsBytes xs) (n : Nat) : IsBytes (xs.drop n) := isBytes_mem.2 fun x hx => isBytes_mem.1 h x (List.mem_of_mem_drop hx)
theorem isBytes_zeros (n : Nat) : IsBytes (List.replicate n 0) := isBytes_mem.2 fun x hx => by rw [List.eq_of_mem_replicate hx]; omega
theorem isBytes_pieceOf {sig : List Int} (h : IsBytes sig) (n : Nat) : IsBytes (pieceOf sig n) := isBytes_take (isBytes_app (isBytes_take (isBytes_drop h _) _) (isBytes_zeros _)) _
def candX (id : List Int) (q k : Nat) (M sig : List Int) (n : Nat) : List Int := stepsC (pre22 id q n) (dgN M k n) (pieceOf sig n) (2 ^ k - 1 - dgN M k n)
def candOk (k : Nat) (sig : List Int) : Bool := decide (sig.length = 36 + 32 * chN k) && decide (sig.take 4 = numB (cdN k) 4)
def candK (id : List Int) (q k : Nat) (msg sig : List Int) : List Int := endsOf id q (flatX (candX id q k (msgOf id q ((sig.drop 4).take 32) msg) sig) (chN k))
def candOf (id : List Int) (q k : Nat) (msg sig : List Int) : List Int := if candOk k sig then candK id q k msg sig else List.replicate 32 0
def candE (k : Nat) (sig : List Int) : Int := if candOk k sig then 0 else 3
set_option maxRecDepth 100000 in
theorem cand_len (w : World) (id : List Int) (q k : Nat) (hq : q < 32) (hk : k = 1 ∨ k = 2 ∨ k = 4 ∨ k = 8) (mv sv : Value) (sig : List Int) (hs : Old w sv sig) (hsl : sig.length ≤ 1000000) (hne : sig.length ≠ 36 + 32 * chN k) :
 Calls Tryz.prog 51 #[.agg (u8s id).toArray, .int .i64 q, .int .i64 k, mv, sv] w fun e w' => e = .returned (.tuple #[.agg (u8s (List.replicate 32 0)).toArray, .int .i64 3]) ∧ Own w w' [] := by
 have H := Own.refl w
 have hmay : Hid (∀ w', Calls Tryz.prog 71 #[.int .i64 q, .int .i64 k] w' fun e w'' => e = .returned (.bool true) ∧ Own w' w'' []) := fun w' => by rw [← may_k hq hk]; exact may_any w' q k
 have hlo := Hh (fun w' => long_k w' k hk)
 obtain ⟨lg, hlg⟩ : ∃ l, l = 36 + 32 * chN k := ⟨_, rfl⟩
 rw [← hlg] at hlo hne
 have hnew := Hh (fun w' (h : Old w' sv sig) => rnew_any w' sv sig h hsl)
 have hO := Hh (fun w' L (h : Own w w' L) (hn : ∀ k ∈ L.map (·.1), w.heap.size ≤ k) => hs.mv h hn)
 obtain ⟨ps, cs, rfl⟩ := hs.shape
 obtain ⟨sn, hsn⟩ : ∃ n, n = sig.length := ⟨_, rfl⟩
 rw [← hsn] at hO hnew hne ⊢
 clear hlg hs hsl hsn hk
 have hne1 : ((sn : Int) == (lg : Int)) = false := by rw [beq_eq_false_iff_ne]; omega
 have hne2 : ¬ (sn : Int) = (lg : Int) := by omega
 go_enter Tryz.func51, Tryz.ntmps51
 have z1 := tt
 go_wp2_with (first
  | (clear z1; refine st_new rfl (rn_box (cs := u8s id) H rfl rfl rfl) ?_; clear H; intro b5 w1 hb5 H; have z2 := tt)
  | (clear z2; refine st_new rfl (rn_box (cs := i64s [(q : Int)]) H rfl rfl rfl) ?_; clear H; intro b6 w2 hb6 H; have z3 := tt)
  | (clear z3; refine st_new rfl (rn_alloc H rfl info_hash) ?_; clear H; intro b10 w3 hb10 H; have z4 := tt)
  | (refine st_val rfl (rn_load H rfl rfl (.tail _ (.head _)) rfl rfl rfl) ?_)
  | (clear z4; go_at_call 71; refine (hmay.out _).mono ?_; rintro e w4 ⟨rfl, h3⟩; replace H := H.call0 h3; clear h3; have z5 := tt)
  | (clear z5; go_at_call 48; refine (hnew.out _ (hO.out _ _ H (by simp; omega))).mono ?_; rintro e w5 ⟨r, pr, cr, rfl, hr, _, _, h3⟩; have gr := Nat.le_trans H.size hr; replace H := H.callNew h3 hr; clear h3; have z6 := tt)
  | (clear z6; refine st_new rfl (rn_alloc H rfl info_rp) ?_; clear H; intro b12 w6 hb12 H; have z7 := tt)
  | (clear z7; refine st_skip rfl (rn_store (v := .pointer (some ⟨r, 0, none⟩)) H rfl rfl rfl (by kernel_rfl) .head (by simp) rfl) ?_; clear H; intro w7 H; have z8 := tt)
  | (clear z8; go_at_call 46; refine (hlo.out _).mono ?_; rintro e w8 ⟨rfl, h3⟩; replace H := H.call0 h3; clear h3; have z9 := tt)
  | (clear z9; refine st_skip rfl (rn_storeAll (vs := u8s (List.replicate 32 0)) H rfl rfl rfl (by kernel_rfl) (.tail (.tail .head)) (by kernel_rfl) (oneCell_ints _ _)) ?_; clear H; intro w9 H))
 refine fin_cell2 rfl H rfl (.tail _ (.tail _ (.head _))) rfl rfl (by kernel_rfl) rfl rfl ⟨rfl, ?_⟩
 exact H.end0 (by simp; omega)
end Go.Proofs.YtfihlmnbonnekaaGreat
namespace Go.Proofs.YtfihlmnbonnekaaGreat
open Go.RowKit
def RdP (wk : World) (r C : Nat) (xs : List Int) (i : Nat) (Lr : List Ent) : Prop := ∃ p c, Lr = [(r, [.slice p (32 * C - 32 * i) c, .bool false], 130)] ∧ (∀ w' L, Own wk w' L → (∀ j ∈ L.map (·.1), j = r ∨ wk.heap.size ≤ j) → BytesAt w' (.slice p (32 * C - 32 * i) c) (xs.drop (32 * i))) ∧ ∀ k, blk (Value.slice p (32 * C - 32 * i) c) = some k → k ≠ r ∧ k < wk.heap.size
theorem candKey_any (wk : World) (id : List Int) (h16 : id.length = 16) (q k t : Nat) (hq : q < 32) (hk : k = 1 ∨ k = 2 ∨ k = 4 ∨ k = 8) (ht : t = 2 ^ k - 1) (ht9 : t ≤ 255) (M sig : List Int) (hl : sig.length = 36 + 32 * chN k) (hsb : IsBytes sig)
 (p5 p6 p12 p13 p15 r gd od cd : Nat) (p : Option Addr) (c : Nat)
 (H0 : Own wk wk [(r, [.slice p (32 * chN k) c, .bool false], 130)]) (hs : BytesAt wk (.slice p (32 * chN k) c) (sig.drop 36)) (hne : ∀ k', blk (Value.slice p (32 * chN k) c) = some k' → k' ≠ r ∧ k' < wk.heap.size)
 (h5 : ∀ j v, (u8s id)[j]? = some v → wk.cell? ⟨p5, 0 + j, none⟩ = some v) (h6 : wk.cell? ⟨p6, 0, none⟩ = some (.int .i64 q)) (h12 : wk.cell? ⟨p12, 0, none⟩ = some (.pointer (some ⟨r, 0, none⟩))) (h13 : wk.cell? ⟨p13, 0, none⟩ = some (.slice (some ⟨gd, od, none⟩) (chN k) cd)) (hdc : ∀ i v, (ints .i64 (digits M k))[i]? = some v → wk.cell? ⟨gd, od + i, none⟩ = some v) (h15 : wk.cell? ⟨p15, 0, none⟩ = some (.int .i64 t))
 (hlt : (p5 < wk.heap.size ∧ p6 < wk.heap.size ∧ p12 < wk.heap.size ∧ p13 < wk.heap.size ∧ p15 < wk.heap.size ∧ gd < wk.heap.size) ∧ (p5 ≠ r ∧ p6 ≠ r ∧ p12 ≠ r ∧ p13 ≠ r ∧ p15 ≠ r ∧ gd ≠ r)) :
 Calls Tryz.prog 81 #[.agg (u8s id).toArray, .int .i64 q, .int .i64 k, .func (.func 82) #[] #[.pointer (some ⟨p5, 0, none⟩), .pointer (some ⟨p6, 0, none⟩), .pointer (some ⟨p12, 0, none⟩), .pointer (some ⟨p13, 0, none⟩), .pointer (some ⟨p15, 0, none⟩)]] wk fun e w' => e = .returned (.agg (u8s (endsOf id q (flatX (candX id q k M sig) (chN k)))).toArray) ∧ ∃ cs, Own wk w' [(r, cs, 130)] := by
 obtain ⟨hC0, hC1⟩ := chN_le k
 have hxs : (sig.drop 36).length = 32 * chN k := by rw [List.length_drop]; omega
 have hfwd : ∀ (v : Value) (ys : List Int), BytesAt wk v ys → (∀ k', blk v = some k' → k' ≠ r ∧ k' < wk.heap.size) → ∀ w' L, Own wk w' L → (∀ j ∈ L.map (·.1), j = r ∨ wk.heap.size ≤ j) → BytesAt w' v ys := fun v ys h1 h2 w' L h3 h4 => SlAt.own h1 h3 (fun k' hk' hm => by have := h2 k' hk'; have := h4 k' hm; omega)
 have h := key_any wk id h16 q k hq hk 82 _ #[.pointer (some ⟨p5, 0, none⟩), .pointer (some ⟨p6, 0, none⟩), .pointer (some ⟨p12, 0, none⟩), .pointer (some ⟨p13, 0, none⟩), .pointer (some ⟨p15, 0, none⟩)] Tryz.func82 (by kernel_rfl) (by kernel_rfl) (RdP wk r (chN k) (sig.drop 36)) [r] (fun i Lr ⟨p, c, h1, _⟩ => by rw [h1]; rfl) (candX id q k M sig) (fun i => ?_) (fun i => ?_) ⟨_, ⟨p, c, rfl, ?_, ?_⟩, H0⟩ ?_
 · refine h.mono ?_
   rintro e w' ⟨h1, Lr, ⟨p2, c2, rfl, _⟩, h2⟩
   exact ⟨h1, _, h2⟩
 · exact length_stepsC (length_pieceOf _ _) _
 · exact isBytes_stepsC (isBytes_pieceOf hsb _) _
 · intro w' L h1 h2
   exact hfwd _ _ hs hne w' L h1 h2
 · exact hne
 · intro i hi w' L Lr hRP hw' hL
   obtain ⟨p1, c1, rfl, hb, hbk⟩ := hRP
   have hkeys : ∀ j ∈ (L ++ [(r, [.slice p1 (32 * chN k - 32 * i) c1, .bool false], 130)] : List Ent).map (·.1), j = r ∨ wk.heap.size ≤ j := fun j hj => by
    rw [List.map_append, List.mem_append] at hj
    rcases hj with hj | hj
    · exact Or.inr (hL j hj)
    · simp at hj; exact Or.inl hj
   have hold : ∀ (b o : Nat) (v : Value), wk.cell? ⟨b, o, none⟩ = some v → b ≠ r → b < wk.heap.size → w'.cell? ⟨b, o, none⟩ = some v := fun b o v h1 h2 h3 => hw'.old h1 (fun hm => by have := hkeys b hm; omega)
   obtain ⟨⟨l5, l6, l12, l13, l15, lgd⟩, e5, e6, e12, e13, e15, egd⟩ := hlt
   have hsz := hw'.size
   obtain ⟨g1, g2⟩ := dgN_eq (h := M) hi
   have hxd : ((sig.drop 36).drop (32 * i)).length = 32 * chN k - 32 * i := by rw [List.length_drop, hxs]
   have hcc := candcl_any w' id h16 q i t (dgN M k i) hq (by omega) ht9 (by omega) p5 p6 p12 p13 p15 r (32 * chN k - 32 * i) c1 gd od (chN k) cd p1 ((sig.drop 36).drop (32 * i)) hi (hw'.sub1 (List.mem_append_right _ (.head _))) (hb w' _ hw' hkeys) hxd.symm (by omega) (by omega) (fun k' hk' => (hbk k' hk').1)
    (fun j v hj => hold _ _ _ (h5 j v hj) e5 l5) (hold _ _ _ h6 e6 l6) (hold _ _ _ h12 e12 l12) (hold _ _ _ h13 e13 l13) (hold _ _ _ (hdc i _ g1) egd lgd) (hold _ _ _ h15 e15 l15) ⟨⟨by omega, by omega, by omega, by omega, by omega, by omega⟩, e5, e6, e12, e13, e15, egd⟩
   refine hcc.mono ?_
   rintro e w'' ⟨rfl, p2, c2, h7, h8, h9⟩
   have e1 : 32 * chN k - 32 * i - 32 = 32 * chN k - 32 * (i + 1) := by omega
   rw [e1] at h7 h8 h9
   have hw2 : Own wk w'' (L ++ [(r, [.slice p2 (32 * chN k - 32 * (i + 1)) c2, .bool false], 130)]) := Own.callAt (L1 := L) (L2 := []) hw' h7
   have hb2 : ∀ k', blk (Value.slice p2 (32 * chN k - 32 * (i + 1)) c2) = some k' → k' ≠ r ∧ k' < wk.heap.size := fun k' hk' => hbk k' (h9 k' hk')
   refine ⟨?_, _, ⟨p2, c2, rfl, fun w3 L3 h10 h11 => ?_, hb2⟩, h7⟩
   · unfold candX
     rw [pieceOf_eq (by omega), List.drop_drop, show 36 + 32 * i = 32 * i + 36 by omega, ← ht]
   · have h12' := SlAt.back h8 hw2 (fun k' hk' => by
      obtain ⟨h13, h14⟩ := hb2 k' hk'
      refine ⟨fun hm => ?_, h14⟩
      rw [List.map_append, List.mem_append] at hm
      rcases hm with hm | hm
      · have := hL k' hm; omega
      · simp at hm; exact h13 hm)
     have h15' := hfwd _ _ h12' hb2 w3 L3 h10 h11
     rw [List.drop_drop] at h15'
     rw [show 32 * (i + 1) = 32 * i + 32 by omega]
     exact h15'
end Go.Proofs.YtfihlmnbonnekaaGreat
namespace Go.Proofs.YtfihlmnbonnekaaGreat
open Go.RowKit
theorem id_ {p : Prop} (h : p) : p := h
set_option maxRecDepth 100000 in
theorem cand_main (w : World) (id : List Int) (h16 : id.length = 16) (q k : Nat) (hq : q < 32) (hk : k = 1 ∨ k = 2 ∨ k = 4 ∨ k = 8) (mv sv : Value) (msg sig : List Int) (hm : Old w mv msg) (hmb : IsBytes msg) (hml : msg.length ≤ 90000) (hs : Old w sv sig) (hsb : IsBytes sig) (hl : sig.length = 36 + 32 * chN k) :
 Calls Tryz.prog 51 #[.agg (u8s id).toArray, .int .i64 q, .int .i64 k, mv, sv] w fun e w' => e = .returned (.tuple #[.agg (u8s (candOf id q k msg sig)).toArray, .int .i64 (candE k sig)]) ∧ Own w w' [] := by
 have H := Own.refl w
 have hmay : Hid (∀ w', Calls Tryz.prog 71 #[.int .i64 q, .int .i64 k] w' fun e w'' => e = .returned (.bool true) ∧ Own w' w'' []) := fun w' => by rw [← may_k hq hk]; exact may_any w' q k
 obtain ⟨t, ht255, ht1, ht2, hsh⟩ := two_pow hk
 obtain ⟨hC0, hC1⟩ := chN_le k
 obtain ⟨hcd0, hcd9⟩ := cdN_range k
 have hk8 : k ≤ 8 := by omega
 have hlo := Hh (fun w' => long_k w' k hk)
 have hcd := Hh (fun w' => code_k w' k hk)
 have hnew := Hh (fun w' (h : Old w' sv sig) => rnew_any w' sv sig h (by omega))
 have hO := Hh (fun w' L (h : Own w w' L) (hn : ∀ k ∈ L.map (·.1), w.heap.size ≤ k) => hs.mv h hn)
 have hOm : Hid (Old w mv msg) := hm
 obtain ⟨cb, hcb0⟩ : ∃ c, c = (sig.drop 4).take 32 := ⟨_, rfl⟩
 have hcb := Hh hcb0
 have hcbl : Hid (cb.length = 32) := by show _ = _; rw [hcb0, List.length_take, List.length_drop]; omega
 have hcbb : Hid (IsBytes cb) := by rw [hcb0]; exact isBytes_take (isBytes_drop hsb _) _
 obtain ⟨M, hM⟩ : ∃ M, M = msgOf id q cb msg := ⟨_, rfl⟩
 have hMl : Hid (M.length = 32) := by show _ = _; rw [hM]; rfl
 have hMb : Hid (IsBytes M) := by rw [hM]; exact isBytes_sha _
 have hhash : Hid (∀ w' v, LitL [cb, msg] w' v → Calls Tryz.prog 74 #[.agg (u8s id).toArray, .int .i64 q, .int .i64 33153, v] w' fun e w'' => e = .returned (.agg (u8s M).toArray) ∧ Own w' w'' []) := fun w' v h => by
  have h2 := hash_any w' id h16 q 33153 hq (by omega) v [cb, msg] h (by have := hcbl.out; simp; omega) (by simp)
  rw [show sha (hashIn id q 33153 [cb, msg]) = M by rw [hM]; unfold hashIn msgOf; rw [show numB ((33153 : Nat) : Int) 2 = [129, 129] by kernel_rfl, List.append_assoc]; simp] at h2
  exact h2
 have hdig : Hid (∀ w', Calls Tryz.prog 73 #[.int .i64 k, .agg (u8s M).toArray] w' fun e w'' => ∃ r, e = .returned r ∧ TupI (digits M k) w'' r ∧ Own w' w'' []) := fun w' => digitsT_any w' k hk M hMl.out hMb.out
 have hdl := Hh (length_digits M k)
 have hbe := Hh (beN_eq (cd := cdN k) hsb (by omega) hcd0 hcd9)
 have hkey := Hh (fun wk p5 p6 p12 p13 p15 r gd od cd' p c => candKey_any wk id h16 q k t hq hk ht2 ht255 M sig hl hsb p5 p6 p12 p13 p15 r gd od cd' p c)
 have hok : Hid (sig.take 4 = numB (cdN k) 4 → candOf id q k msg sig = endsOf id q (flatX (candX id q k M sig) (chN k)) ∧ candE k sig = 0) := fun h => by
  have e : candOk k sig = true := by unfold candOk; rw [decide_eq_true hl, decide_eq_true h]; rfl
  unfold candOf candE candK
  rw [e, if_pos rfl, if_pos rfl, ← hcb0, ← hM]
  exact ⟨rfl, rfl⟩
 have hno : Hid (¬ sig.take 4 = numB (cdN k) 4 → candOf id q k msg sig = List.replicate 32 0 ∧ candE k sig = 3) := fun h => by
  have e : candOk k sig = false := by unfold candOk; rw [decide_eq_false h]; simp
  unfold candOf candE
  rw [e]
  exact ⟨rfl, rfl⟩
 obtain ⟨R, hR⟩ : ∃ R, R = endsOf id q (flatX (candX id q k M sig) (chN k)) := ⟨_, rfl⟩
 have hRl : Hid (R.length = 32) := by show _ = _; rw [hR]; rfl
 rw [← hR] at hok
 simp only [← hR] at hkey
 obtain ⟨cO, hcO⟩ : ∃ R, R = candOf id q k msg sig := ⟨_, rfl⟩
 obtain ⟨cE, hcE⟩ : ∃ R, R = candE k sig := ⟨_, rfl⟩
 rw [← hcO, ← hcE] at hok hno ⊢
 obtain ⟨ds, hds⟩ : ∃ d, d = digits M k := ⟨_, rfl⟩
 rw [← hds] at hdig hdl
 simp only [← hds] at hkey
 obtain ⟨cd, hcd1⟩ : ∃ c, c = cdN k := ⟨_, rfl⟩
 rw [← hcd1] at hcd hcd0 hcd9 hbe hok hno
 obtain ⟨C, hC⟩ : ∃ C, C = chN k := ⟨_, rfl⟩
 rw [← hC] at hC0 hC1 hdl hlo
 have hl' : Hid (sig.length = 36 + 32 * C) := by rw [hC]; exact hl
 simp only [← hC] at hkey
 have hsz := Hh (size_idL h16)
 have hsb' := Hh hsb
 have hmb' := Hh hmb
 obtain ⟨ps, cs, rfl⟩ := hs.shape
 obtain ⟨pm, cm, rfl⟩ := hm.shape
 obtain ⟨mn, hmn⟩ : ∃ n, n = msg.length := ⟨_, rfl⟩
 have hmn' := Hh hmn
 rw [← hmn] at hOm ⊢
 obtain ⟨sn, hsn⟩ : ∃ n, n = 36 + 32 * C := ⟨_, rfl⟩
 have hsl : Hid (sig.length = sn) := by rw [hsn]; exact hl'.out
 rw [hsl.out] at hO hnew ⊢
 rw [← hsn] at hlo
 have hsn' := Hh hsn
 have hsn4 : 4 ≤ sn := by omega
 have hsn36 : 36 ≤ sn := by omega
 have hsn9 : sn ≤ 1000000 := by omega
 have hn3 := Hh (fun w' r c' p' (h1 : Own w' w' [(r, [.slice p' sn c', .bool false], 130)]) (h2 : BytesAt w' (.slice p' sn c') sig) (h3 : ∀ k, blk (Value.slice p' sn c') = some k → k ≠ r) => rnum4_any w' r sn c' p' sig h1 h2 hsl.out.symm hsn4 hsn9 hsb h3)
 have hmw : Hid (∀ k, blk (Value.slice pm mn cm) = some k → k < w.heap.size) := hOm.out.2
 clear hk hs hsb hl hm hmb hml hM hcb0 hR hcO hcE hds hcd1 hC hsn hmn h16 ht1 ht2
 obtain ⟨v, hv⟩ : ∃ v, v = beN sig 4 := ⟨_, rfl⟩
 rw [← hv] at hbe
 simp only [← hv] at hn3
 clear hv
 by_cases hvc : v = cd
 · subst hvc
   have hok1 := Hh (hok.out (hbe.out.1 rfl))
   clear hok hno hbe
   go_enter Tryz.func51, Tryz.ntmps51
   have z1 := tt
   go_wp2_with (first
    | (clear z1; refine st_new rfl (rn_box (cs := u8s id) H rfl rfl rfl) ?_; clear H; intro b5 w1 hb5 H; have z2 := tt)
    | (clear z2; refine st_new rfl (rn_box (cs := i64s [(q : Int)]) H rfl rfl rfl) ?_; clear H; intro b6 w2 hb6 H; have z3 := tt)
    | (clear z3; refine st_new rfl (rn_alloc H rfl info_hash) ?_; clear H; intro b10 w3 hb10 H; have z4 := tt)
    | (refine st_val rfl (rn_load H rfl rfl (.tail _ (.head _)) rfl rfl rfl) ?_)
    | (clear z4; go_at_call 71; refine (hmay.out _).mono ?_; rintro e w4 ⟨rfl, h3⟩; replace H := H.call0 h3; clear h3; have z5 := tt)
    | (clear z5; go_at_call 48; refine (hnew.out _ (hO.out _ _ H (by simp; omega))).mono ?_; rintro e w5 ⟨r, p1, c1, rfl, hr, hbin, hfr, h3⟩; have gr := Nat.le_trans H.size hr; have H2 := H.callNew h3 hr;
        have f1 : ∀ k, blk (Value.slice p1 sn c1) = some k → k ≠ b5 ∧ k ≠ b6 ∧ k ≠ b10 ∧ k ≠ r ∧ k < w5.heap.size ∧ w.heap.size ≤ k := (fun k hk => by
         have a1 := hfr k hk
         have a2 := hbin.2.2 k hk
         have a3 := H.lt (.head _)
         have a4 := H.lt (.tail _ (.head _))
         have a5 := H.lt (.tail _ (.tail _ (.head _)))
         have a6 := H.size
         exact ⟨by omega, by omega, by omega, a1.1, a2, by omega⟩);
        have F1 := Hh f1; have BY1 := Hh hbin.2.1; clear H h3 f1 hbin hfr; have HW5 := Hh H2; have H := H2.self; clear H2; have z6 := tt)
    | (clear z6; refine st_new rfl (rn_alloc H rfl info_rp) ?_; clear H; intro b12 w6 hb12 H; have z7 := tt)
    | (clear z7; refine st_skip rfl (rn_store (v := .pointer (some ⟨r, 0, none⟩)) H rfl rfl rfl (by kernel_rfl) .head (by simp) rfl) ?_; clear H; intro w7 H; have z8 := tt)
    | (clear z8; go_at_call 46; refine (hlo.out _).mono ?_; rintro e w8 ⟨rfl, h3⟩; replace H := H.call0 h3; clear h3; have e12 : w8.cell? ⟨b12, 0, none⟩ = some (.pointer (some ⟨r, 0, none⟩)) := H.cell (.head _) 0; have z9 := tt)
    | (clear z9; go_at_call 49; refine (hn3.out w8 r c1 p1 (H.sub1 (.tail _ (.head _))) (SlAt.own BY1.out H (fun k hk hm => (by have := F1.out k hk; simp at hm; omega))) (fun k hk => (F1.out k hk).2.2.2.1)).mono ?_; rintro e w9 ⟨rfl, p4, c4, h3, hb4, hk4⟩; have H2 := Own.callAt (L1 := [_]) H h3; have BY4 := Hh hb4; have F4 := Hh (fun k hk => F1.out k (hk4 k hk)); clear H h3 e12 hb4 hk4; have H := H2; clear H2; have z10 := tt)
    | (clear z10; go_at_call 38; refine (hcd.out _).mono ?_; rintro e w10 ⟨rfl, h3⟩; have H2 := H.call0 h3; have BY10 := Hh (SlAt.own0 BY4.out h3); clear H h3 BY4; have H := H2; clear H2; have z11 := tt))
   have HM := Hh H
   have hw5 := HW5.out.size
   have hw10 := H.size
   have hno5 : Own w w10 [] := Own.transNew HW5.out H (by simp; omega) (by simp; omega)
   have hno5' := Hh hno5
   have hnd : (([b12, r, b10, b6, b5] : List Nat)).Nodup := H.nodup
   have l12 := H.lt (.head _)
   have lr := H.lt (.tail _ (.head _))
   have l10 := H.lt (.tail _ (.tail _ (.head _)))
   have l6 := H.lt (.tail _ (.tail _ (.tail _ (.head _))))
   have l5 := H.lt (.tail _ (.tail _ (.tail _ (.tail _ (.head _)))))
   have H0 : Own w10 w10 [(b12, [.pointer (some ⟨r, 0, none⟩)], 89), (r, [.slice p4 (sn - 4) c4, .bool false], 130), (b10, u8s (List.replicate 32 0), 24), (b6, i64s [(q : Int)], 3), (b5, u8s id, 22)] := H.self
   clear H
   have F5 : Hid (∀ k, blk (Value.slice p4 (sn - 4) c4) = some k → k ≠ b12 ∧ k ≠ r ∧ k ≠ b10 ∧ k ≠ b6 ∧ k ≠ b5 ∧ k < w10.heap.size) := fun k hk => by have := F4.out k hk; omega
   have hmsz := hno5.size
   have hmo : Hid (∀ w' cs, Own w10 w' [(b12, [.pointer (some ⟨r, 0, none⟩)], 89), (r, cs, 130), (b10, u8s (List.replicate 32 0), 24), (b6, i64s [(q : Int)], 3), (b5, u8s id, 22)] → BIn msg w' (.slice pm mn cm)) := fun w' cs h => by
    have h1 : Old w10 (.slice pm mn cm) msg := hOm.out.mv hno5 (by simp)
    refine ⟨⟨_, _, by rw [hmn'.out]⟩, SlAt.own h1.1 h (fun k hk hm => ?_), fun k hk => Nat.lt_of_lt_of_le (h1.2 k hk) h.size⟩
    have := hmw.out k hk
    simp at hm
    omega
   have hraw := Hh (fun w' (h1 : Own w' w' [(r, [.slice p4 (sn - 4) c4, .bool false], 130)]) (h2 : BytesAt w' (.slice p4 (sn - 4) c4) (sig.drop 4)) => rraw_any w' r (sn - 4) c4 32 p4 (sig.drop 4) h1 h2 (by rw [List.length_drop, hsl.out]) (by omega) (by omega) (fun k hk => (F5.out k hk).2.1))
   have hby : Hid (∀ w', Own w10 w' [(b12, [.pointer (some ⟨r, 0, none⟩)], 89), (r, [.slice p4 (sn - 4) c4, .bool false], 130), (b10, u8s (List.replicate 32 0), 24), (b6, i64s [(q : Int)], 3), (b5, u8s id, 22)] → BytesAt w' (.slice p4 (sn - 4) c4) (sig.drop 4)) := fun w' h => SlAt.own BY10.out h (fun k hk hm => by have := F5.out k hk; simp at hm; omega)
   have hcb' : Hid ((sig.drop 4).take 32 = cb) := hcb.out.symm
   have hd36 : Hid ((sig.drop 4).drop 32 = sig.drop 36) := by show _ = _; rw [List.drop_drop]
   have hs36 : Hid (sn - 4 - 32 = sn - 36) := by show _ = _; omega
   have hBk : Hid (∀ (cs : List Value) k, k ∈ ([(b12, [.pointer (some ⟨r, 0, none⟩)], 89), (r, cs, 130), (b10, u8s (List.replicate 32 0), 24), (b6, i64s [(q : Int)], 3), (b5, u8s id, 22)] : List Ent).map (·.1) → k < w10.heap.size) := fun cs k hk => by simp at hk; omega
   obtain ⟨St, hSt⟩ : ∃ St : Nat → Act → World → Prop, St = fun s a' w' => w10.heap.size ≤ w'.heap.size ∧ (match s with
    | 0 => Own w10 w' [(b12, [.pointer (some ⟨r, 0, none⟩)], 89), (r, [.slice p4 (sn - 4) c4, .bool false], 130), (b10, u8s (List.replicate 32 0), 24), (b6, i64s [(q : Int)], 3), (b5, u8s id, 22)]
    | s + 1 => (∃ p' c', Own w10 w' [(b12, [.pointer (some ⟨r, 0, none⟩)], 89), (r, [.slice p' (sn - 36) c', .bool false], 130), (b10, u8s (List.replicate 32 0), 24), (b6, i64s [(q : Int)], 3), (b5, u8s id, 22)] ∧ BytesAt w' (.slice p' (sn - 36) c') (sig.drop 36) ∧ ∀ k, blk (Value.slice p' (sn - 36) c') = some k → blk (Value.slice p4 (sn - 4) c4) = some k) ∧
      (match s with | 0 => True | _ => ∃ g sl, a'.tmps.getD 13 undef = .pointer (some ⟨g, 0, none⟩) ∧ w10.heap.size ≤ g ∧ w'.heap[g]? = some (.cells #[sl] 120 (0, 0)) ∧ IIn .i64 ds w' sl)) := ⟨_, rfl⟩
   have hSb : Hid (∀ w', (∃ s a', St s a' w') → w10.heap.size ≤ w'.heap.size ∧ ∃ cs, Own w10 w' [(b12, [.pointer (some ⟨r, 0, none⟩)], 89), (r, cs, 130), (b10, u8s (List.replicate 32 0), 24), (b6, i64s [(q : Int)], 3), (b5, u8s id, 22)]) := fun w' ⟨s, a', h⟩ => by
    rw [hSt] at h
    cases s with
    | zero => exact ⟨h.1, _, h.2⟩
    | succ s => obtain ⟨h1, ⟨p', c', h2, _⟩, _⟩ := h; exact ⟨h1, _, h2⟩
   have hS0 : Hid (∀ a' w', St 0 a' w' ↔ w10.heap.size ≤ w'.heap.size ∧ Own w10 w' [(b12, [.pointer (some ⟨r, 0, none⟩)], 89), (r, [.slice p4 (sn - 4) c4, .bool false], 130), (b10, u8s (List.replicate 32 0), 24), (b6, i64s [(q : Int)], 3), (b5, u8s id, 22)]) := fun a' w' => by rw [hSt]
   have hS1 : Hid (∀ a' w', St 1 a' w' ↔ w10.heap.size ≤ w'.heap.size ∧ (∃ p' c', Own w10 w' [(b12, [.pointer (some ⟨r, 0, none⟩)], 89), (r, [.slice p' (sn - 36) c', .bool false], 130), (b10, u8s (List.replicate 32 0), 24), (b6, i64s [(q : Int)], 3), (b5, u8s id, 22)] ∧ BytesAt w' (.slice p' (sn - 36) c') (sig.drop 36) ∧ ∀ k, blk (Value.slice p' (sn - 36) c') = some k → blk (Value.slice p4 (sn - 4) c4) = some k) ∧ True) := fun a' w' => by rw [hSt]; exact Iff.rfl
   have hS2 : Hid (∀ a' w', St 2 a' w' ↔ w10.heap.size ≤ w'.heap.size ∧ (∃ p' c', Own w10 w' [(b12, [.pointer (some ⟨r, 0, none⟩)], 89), (r, [.slice p' (sn - 36) c', .bool false], 130), (b10, u8s (List.replicate 32 0), 24), (b6, i64s [(q : Int)], 3), (b5, u8s id, 22)] ∧ BytesAt w' (.slice p' (sn - 36) c') (sig.drop 36) ∧ ∀ k, blk (Value.slice p' (sn - 36) c') = some k → blk (Value.slice p4 (sn - 4) c4) = some k) ∧ ∃ g sl, a'.tmps.getD 13 undef = .pointer (some ⟨g, 0, none⟩) ∧ w10.heap.size ≤ g ∧ w'.heap[g]? = some (.cells #[sl] 120 (0, 0)) ∧ IIn .i64 ds w' sl) := fun a' w' => by rw [hSt]; exact Iff.rfl
   have hSm : Hid (∀ s a' w1 w2, St s a' w1 → Own w1 w2 [] → St s a' w2) := fun s a' w1 w3 h1 h2 => by
    rw [hSt] at h1 ⊢
    cases s with
    | zero => exact ⟨Nat.le_trans h1.1 h2.size, h1.2.call0 h2⟩
    | succ s =>
      obtain ⟨h3, ⟨p', c', h4, h5, h6⟩, h7⟩ := h1
      refine ⟨Nat.le_trans h3 h2.size, ⟨p', c', h4.call0 h2, SlAt.own0 h5 h2, h6⟩, ?_⟩
      cases s with
      | zero => trivial
      | succ s => obtain ⟨g, sl, h8, h9, h10, h11⟩ := h7; exact ⟨g, sl, h8, h9, by rw [h2.keep g (Array.getElem?_eq_some_iff.1 h10).1 (by simp)]; exact h10, (IIn.mono _ _) _ _ _ h2 h11⟩
   have hSp : Hid (∀ s a' w' d v, (d ∉ [13] ∨ s ≤ 1) → St s a' w' → St s (a'.put (some d) v) w') := fun s a' w' d v hd h => by
    rw [hSt] at h ⊢
    match s, h with
    | 0, h => exact h
    | 1, h => exact h
    | s + 2, h =>
      obtain ⟨h1, h2, g, sl, h3, h4⟩ := h
      refine ⟨h1, h2, g, sl, ?_, h4⟩
      have hne : d ≠ 13 := by
       rcases hd with hd | hd
       · simpa using hd
       · omega
      rw [← h3]
      show (a'.tmps.setIfInBounds d v).getD 13 undef = _
      simp [hne]
   clear hSt
   refine region_effF 14 (by kernel_rfl) (by kernel_rfl) (by kernel_rfl) [.val (.int .i64 k), .val (.agg (u8s id).toArray), .val (.int .i64 q), .val (.pointer (some ⟨r, 0, none⟩)), .eff (RdE w10.heap.size r) (UIn w10.heap.size cb), .val (.slice pm mn cm), .rel (LitL [cb, msg]), .val (.agg (u8s M).toArray), .rel (TupI ds), .rel (TupI ds), .rel (IIn .i64 ds), .val (.int .i64 0), .rel (CellT w10.heap.size 120), .eff (CeE 120 1) (fun _ _ => True)] rfl ?_ (by kernel_rfl) St ((hS0.out _ _).2 ⟨Nat.le_refl _, H0⟩) hSm.out [13] 13 (fun s a' w' d v h1 h2 => hSp.out s a' w' d v h1 h2) (by kernel_rfl) ?_
   · simp only [eAll, eRow, Se.pres, or_true, true_and, and_true, implies_true]
     exact ⟨⟨Or.inl trivial, Or.inr (Or.inl (by kernel_rfl)), Or.inr (Or.inr TupI.presR), Or.inr (Or.inr TupI.presR), Or.inr (Or.inr IIn.presR), Or.inr (Or.inr CellT.presR)⟩, Or.inr (Or.inr (UIn.presC (by decide))), Or.inr (Or.inr (LitL.presC (by simp))), Or.inr (Or.inr TupI.presC), Or.inr (Or.inr TupI.presC), Or.inr (Or.inr IIn.presC), Or.inr (Or.inr CellT.presC)⟩
   have z3 := tt
   try go_frame
   repeat (first
    | (clear z3; refine sf_run (v := .agg (u8s id).toArray) rfl (fun w' hw' _ => rn_cells rfl rfl rfl rfl hsz.out (fun j v hj => by obtain ⟨_, cs, q1⟩ := hSb.out w' hw'; rw [q1.cell (.tail _ (.tail _ (.tail _ (.tail _ (.head _))))), Nat.zero_add]; exact hj)) ?_; go_frame; have z4 := tt)
    | (clear z4; refine sf_run (v := .int .i64 q) rfl (fun w' hw' _ => rn_cell rfl rfl rfl rfl (by obtain ⟨_, cs, q1⟩ := hSb.out w' hw'; exact q1.cell (.tail _ (.tail _ (.tail _ (.head _)))) 0)) ?_; go_frame; have z5 := tt)
    | (clear z5; refine sf_run (v := .pointer (some ⟨r, 0, none⟩)) rfl (fun w' hw' _ => rn_cell rfl rfl rfl rfl (by obtain ⟨_, cs, q1⟩ := hSb.out w' hw'; exact q1.cell (.head _) 0)) ?_; go_frame; have z6 := tt)
    | (clear z6; refine sf_callE (args := #[.pointer (some ⟨r, 0, none⟩), .int .i64 32]) (UIn.mono _ _) rfl rfl rfl (by simp [Act.eval]) Tryz.func50 (by kernel_rfl) (by kernel_rfl) (fun a' w' _ hS hF => ?_) ?_
       · obtain ⟨q1, q2⟩ := (hS0.out a' w').1 hS
         refine (hraw.out w' (q2.sub1 (.tail _ (.head _))) (hby.out w' q2)).mono ?_
         rintro e w'' ⟨v, p', c', rfl, ⟨Lv, ⟨g1, g2⟩, g3, g4⟩, q3, q4⟩
         rw [hs36.out] at g3 q3 q4
         rw [hd36.out] at q3
         rw [hcb'.out] at g1 g2
         have ho := Own.drop g3 g4
         refine ⟨v, rfl, ?_, ⟨lr, ⟨.slice p4 (sn - 4) c4, .bool false, (fun _ _ h => by cases h), (fun _ _ h => by cases h), q2.here _ _ _ (.tail _ (.head _))⟩, _, ho⟩, (hS1.out _ w'').2 ⟨Nat.le_trans q1 ho.size, ⟨p', c', Own.callAt (L1 := [_]) q2 ho, q3, q4⟩, trivial⟩⟩
         rcases g2 with ⟨_, g5, _⟩ | ⟨g, cap, cs, g5, rfl, g6, g7, g8, g9⟩
         · have := hcbl.out; omega
         · exact ⟨g, cap, g5, g6, cs, Nat.le_trans q1 (g4 g (by simp)), g3.here _ _ _ (.head _), by rw [Nat.mul_one] at g9; exact g9⟩
       intro v42; go_frame; have z7 := tt)
    | (clear z7; refine sf_rel (LitL.mono _) rfl (fun w' hw' hF => ?_) ?_
       · have hbin := (hF.2 _ rfl (mE (by kernel_rfl))).bin
         obtain ⟨_, cr, q4⟩ := hSb.out w' hw'
         have hsh := hbin.1
         obtain ⟨pg, c1, e1⟩ := hsh
         subst e1
         refine litL_build (e := 27) (l := [(.slice pg cb.length c1, cb), (.slice pm mn cm, msg)]) rfl rfl rfl (fun x hx => ?_) (fun w' => by kernel_rfl)
         simp only [List.mem_cons, List.not_mem_nil, or_false] at hx
         rcases hx with rfl | rfl
         · exact ⟨hbin, hcbb.out⟩
         · exact ⟨hmo.out w' cr q4, hmb'.out⟩
       intro v44; go_frame; have z8 := tt)
    | (clear z8; refine sf_callN (v := .agg (u8s M).toArray) (args := #[.agg (u8s id).toArray, .int .i64 q, .int .i64 33153, v44]) rfl rfl (by simp [Act.eval]) Tryz.func74 (by kernel_rfl) (by kernel_rfl) (fun w' hw' hF => hhash.out w' v44 (hF.2 _ rfl (mE (by kernel_rfl)))) ?_; go_frame; have z9 := tt)
    | (clear z9; refine sf_callR (args := #[.int .i64 k, .agg (u8s M).toArray]) (TupI.mono _) rfl rfl (by simp [Act.eval]) Tryz.func73 (by kernel_rfl) (by kernel_rfl) (fun w' _ _ => hdig.out w') ?_; intro v46; go_frame; have z10 := tt)
    | (clear z10; refine sf_rel (TupI.mono _) rfl (fun w' hw' hF => yieldsTo_val' (rn_move rfl rfl) ⟨Own.refl _, hF.2 _ rfl (mE (by kernel_rfl))⟩) ?_; intro v37; go_frame; have z11 := tt)
    | (clear z11; refine sf_rel (IIn.mono _ _) rfl (fun w' hw' hF => ?_) ?_
       · obtain ⟨p, c, e34, h34⟩ := hF.2 _ rfl (mE (by kernel_rfl))
         exact yieldsTo_val' (rn_extract rfl e34 rfl) ⟨Own.refl _, h34⟩
       intro v47; go_frame; have z12 := tt)
    | (clear z12; refine sf_run (v := .int .i64 0) rfl (fun w' hw' hF => ?_) ?_
       · obtain ⟨p, c, e34, h34⟩ := hF.1.2 _ rfl (mE (by kernel_rfl))
         exact rn_extract rfl e34 rfl
       go_frame; have z13 := tt)
    | (clear z13; refine sf_rel CellT.mono rfl (fun w' hw' hF => cellT_alloc rfl info_ints (fun _ _ h => by cases h) (hSb.out w' hw').1) ?_
       intro v13; go_frame; have z14 := tt)
    | (clear z14; refine sf_store rfl rfl (fun a' w' hag hS hF => ?_) ?_
       · obtain ⟨q1, ⟨p', c', q2, q3, q4⟩, _⟩ := (hS1.out a' w').1 hS
         obtain ⟨g, c0, e13, q5, q6, q7⟩ := hF.2 _ rfl (mE (by kernel_rfl))
         have q8 := hF.1.2 _ rfl (mE (by kernel_rfl))
         subst e13
         obtain ⟨⟨p47, c47, e47⟩, _⟩ := id_ q8
         subst e47
         have hone : Own w' w' [(g, [c0], 120)] := Own.one q7
         have hE : ∀ w'', Own w' w'' [(g, [.slice p47 ds.length c47], 120)] → CeE 120 1 w' w'' := fun w'' ho1 => ⟨g, [c0], [.slice p47 ds.length c47], ⟨rfl, fun c hc => by simp at hc; subst hc; exact q6⟩, q7, ho1, rfl, fun c hc => by simp at hc; subst hc; exact fun _ _ h => by cases h⟩
         have hag13 : a'.tmps.getD 13 undef = .pointer (some ⟨g, 0, none⟩) := hag 13 (mE (by kernel_rfl))
         have hSS : ∀ w'', Own w' w'' [(g, [.slice p47 ds.length c47], 120)] → St 2 a' w'' := fun w'' ho1 => (hS2.out a' w'').2 ⟨Nat.le_trans q1 ho1.size, ⟨p', c', q2.young ho1 (by omega) (fun hm => by have := hBk.out _ g hm; omega), SlAt.own q3 ho1 (fun k hk hm => by
            simp at hm
            have := F5.out k (q4 k hk)
            omega), q4⟩, g, .slice p47 ds.length c47, hag13, q5, ho1.here _ _ _ (.head _), IIn.presC _ _ _ (hE w'' ho1) q8⟩
         exact (rn_store (i := 0) (v := .slice p47 ds.length c47) hone rfl rfl rfl (by kernel_rfl) .head (by simp) rfl).imp fun w'' h => ⟨h.1, hE w'' h.2, hSS w'' h.2⟩
       go_frame)
    | (refine sf_val (fun w' hw' hF => ?_) ⟨_, rfl, nB rfl⟩ ?_
       · go_big_quiet_step (fail)
         exact rfl
       try go_frame))
   refine sf_nil ?_
   intro w11 hS hF
   obtain ⟨q1, ⟨p', c', q2, q3, q4⟩, g, sl, e13, q5, q7, q8⟩ := (hS2.out _ _).1 hS
   have e13' : v13 = .pointer (some ⟨g, 0, none⟩) := e13
   subst e13'
   have e36 : sn - 36 = 32 * C := by have := hsn'.out; omega
   rw [e36] at q2 q3 q4
   have q8' := q8.1
   obtain ⟨pd, cdg, esl⟩ := q8'
   subst esl
   obtain ⟨gd, od, epd, _, hdc⟩ := q8.cellAt (by rw [hdl.out]; omega)
   subst epd
   rw [hdl.out] at q7 q8
   have hgk : g ∉ ([b12, r, b10, b6, b5] : List Nat) := fun hm => by simp at hm; omega
   have hgdr : gd ≠ r := by
    rintro rfl
    obtain ⟨z, hz⟩ : ∃ z, (ints .i64 ds)[0]? = some (.int .i64 z) := ⟨_, ints_get (by rw [hdl.out]; omega)⟩
    have h1 := hdc 0 _ hz
    rw [q2.cell (.tail _ (.head _))] at h1
    have h2 := List.mem_of_getElem? h1
    simp at h2
   have lgd : gd < w11.heap.size := by
    obtain ⟨z, hz⟩ : ∃ z, (ints .i64 ds)[0]? = some (.int .i64 z) := ⟨_, ints_get (by rw [hdl.out]; omega)⟩
    exact World.block_lt_of_cell? w11 _ (hdc 0 _ hz)
   have HA := Hh (Own.adopt q2 q7 (by simpa using hgk))
   have z5 : ∀ j v, (u8s id)[j]? = some v → w11.cell? ⟨b5, 0 + j, none⟩ = some v := fun j v hj => by rw [q2.cell (.tail _ (.tail _ (.tail _ (.tail _ (.head _))))), Nat.zero_add]; exact hj
   have z6 : w11.cell? ⟨b6, 0, none⟩ = some (.int .i64 q) := q2.cell (.tail _ (.tail _ (.tail _ (.head _)))) 0
   have z12 : w11.cell? ⟨b12, 0, none⟩ = some (.pointer (some ⟨r, 0, none⟩)) := q2.cell (.head _) 0
   have zg : w11.cell? ⟨g, 0, none⟩ = some (.slice (some ⟨gd, od, none⟩) C cdg) := by rw [cell_of_row w11 g 0 _ _ _ q7]; rfl
   have lg : g < w11.heap.size := (Array.getElem?_eq_some_iff.1 q7).1
   have zr := q2.here _ _ _ (.tail _ (.head _))
   have Z := Hh (show (∀ wk b15 cs15 T15, Own w11 wk [(b15, cs15, T15)] → w11.heap.size ≤ b15 → (∀ j v, (u8s id)[j]? = some v → wk.cell? ⟨b5, 0 + j, none⟩ = some v) ∧ wk.cell? ⟨b6, 0, none⟩ = some (.int .i64 q) ∧ wk.cell? ⟨b12, 0, none⟩ = some (.pointer (some ⟨r, 0, none⟩)) ∧ wk.cell? ⟨g, 0, none⟩ = some (.slice (some ⟨gd, od, none⟩) C cdg) ∧ (∀ i v, (ints .i64 ds)[i]? = some v → wk.cell? ⟨gd, od + i, none⟩ = some v) ∧ Own wk wk [(r, [.slice p' (32 * C) c', .bool false], 130)] ∧ BytesAt wk (.slice p' (32 * C) c') (sig.drop 36) ∧ (∀ k', blk (Value.slice p' (32 * C) c') = some k' → k' ≠ r ∧ k' < wk.heap.size)) from fun wk b15 cs15 T15 h hb => by
    have hn : ∀ x, x < w11.heap.size → x ∉ ([(b15, cs15, T15)] : List Ent).map (·.1) := fun x hx hm => by simp at hm; omega
    refine ⟨fun j v hj => h.old (z5 j v hj) (hn _ (by omega)), h.old z6 (hn _ (by omega)), h.old z12 (hn _ (by omega)), h.old zg (hn _ lg), fun i v hi => h.old (hdc i v hi) (hn _ lgd), Own.one (by rw [h.keep r (by omega) (hn _ (by omega))]; exact zr), SlAt.own q3 h (fun k' hk' => hn _ (by have := F5.out k' (q4 k' hk'); omega)), fun k' hk' => ?_⟩
    have := F5.out k' (q4 k' hk')
    have := h.size
    omega)
   have hw11 := Hh q1
   clear hS hF hraw hby hmo hhash hdig hBk hSb hS0 hS1 hS2 hSm hSp z5 z6 z12 zg zr q2 q3 q4 q7 q8 e13 hdc H0 St
   simp only [List.drop_succ_cons, List.drop_zero]
   have H := Own.refl w11
   have z12 := tt
   go_wp2_with (first
    | (clear z12; refine st_new rfl (rn_alloc H rfl info_int) ?_; clear H; intro b15 w12 hb15 H; have z13 := tt)
    | (clear z13; refine st_skip rfl (rn_store (v := .int .i64 t) H rfl rfl rfl (by kernel_rfl) .head (by simp) rfl) ?_; clear H; intro w13 H; have ZK := Hh (Z.out _ _ _ _ H hb15); have l15 := H.lt (.head _); have hs13 := H.size; have z14 := tt)
    | (clear z14; refine st_val rfl (rn_cells rfl rfl rfl rfl hsz.out ZK.out.1) ?_; have z15 := tt)
    | (clear z15; refine st_val rfl (rn_cell rfl rfl rfl rfl ZK.out.2.1) ?_; have z16 := tt)
    | (clear z16; go_at_call 81; refine (hkey.out w13 b5 b6 b12 g b15 r gd od cdg p' c' ZK.out.2.2.2.2.2.1 ZK.out.2.2.2.2.2.2.1 ZK.out.2.2.2.2.2.2.2 ZK.out.1 ZK.out.2.1 ZK.out.2.2.1 ZK.out.2.2.2.1 ZK.out.2.2.2.2.1 (H.cell (.head _) 0) ⟨⟨by omega, by omega, by omega, by omega, by omega, by omega⟩, by simp at hnd; omega, by simp at hnd; omega, by simp at hnd; omega, by simp at hgk; omega, by omega, hgdr⟩).mono ?_; rintro e w14 ⟨rfl, csr, h3⟩; replace H := Own.callAt (L1 := [_, _, _]) (HA.out.callNew H hb15) h3; clear h3; have z17 := tt)
    | (clear z17; refine st_skip rfl (rn_storeAll (vs := u8s R) H rfl rfl rfl (size_hashL hRl.out) (.tail (.tail (.tail (.tail .head)))) (by rw [length_ints, length_ints, hRl.out]; rfl) (oneCell_ints _ _)) ?_; clear H; intro w15 H))
   refine fin_cell2 (cs := u8s R) rfl H rfl (.tail _ (.tail _ (.tail _ (.tail _ (.head _))))) rfl rfl (size_hashL hRl.out) rfl rfl ⟨by rw [hok1.out.1, hok1.out.2]; rfl, ?_⟩
   have hx1 := hw11.out
   exact Own.transNew hno5'.out H (by simp) (by simp; omega)
 · have hvb : (v == cd) = false := by rw [beq_eq_false_iff_ne]; exact hvc
   have hno1 := Hh (hno.out (fun h => hvc (hbe.out.2 h)))
   clear hok hno hbe
   go_enter Tryz.func51, Tryz.ntmps51
   have z1 := tt
   go_wp2_with (first
    | (clear z1; refine st_new rfl (rn_box (cs := u8s id) H rfl rfl rfl) ?_; clear H; intro b5 w1 hb5 H; have z2 := tt)
    | (clear z2; refine st_new rfl (rn_box (cs := i64s [(q : Int)]) H rfl rfl rfl) ?_; clear H; intro b6 w2 hb6 H; have z3 := tt)
    | (clear z3; refine st_new rfl (rn_alloc H rfl info_hash) ?_; clear H; intro b10 w3 hb10 H; have z4 := tt)
    | (refine st_val rfl (rn_load H rfl rfl (.tail _ (.head _)) rfl rfl rfl) ?_)
    | (clear z4; go_at_call 71; refine (hmay.out _).mono ?_; rintro e w4 ⟨rfl, h3⟩; replace H := H.call0 h3; clear h3; have z5 := tt)
    | (clear z5; go_at_call 48; refine (hnew.out _ (hO.out _ _ H (by simp; omega))).mono ?_; rintro e w5 ⟨r, p1, c1, rfl, hr, hbin, hfr, h3⟩; have gr := Nat.le_trans H.size hr; have H2 := H.callNew h3 hr;
        have f1 : ∀ k, blk (Value.slice p1 sn c1) = some k → k ≠ b5 ∧ k ≠ b6 ∧ k ≠ b10 ∧ k ≠ r ∧ k < w5.heap.size ∧ w.heap.size ≤ k := (fun k hk => by
         have a1 := hfr k hk
         have a2 := hbin.2.2 k hk
         have a3 := H.lt (.head _)
         have a4 := H.lt (.tail _ (.head _))
         have a5 := H.lt (.tail _ (.tail _ (.head _)))
         have a6 := H.size
         exact ⟨by omega, by omega, by omega, a1.1, a2, by omega⟩);
        have F1 := Hh f1; have BY1 := Hh hbin.2.1; clear H h3 f1 hbin hfr; have HW5 := Hh H2; have H := H2.self; clear H2; have z6 := tt)
    | (clear z6; refine st_new rfl (rn_alloc H rfl info_rp) ?_; clear H; intro b12 w6 hb12 H; have z7 := tt)
    | (clear z7; refine st_skip rfl (rn_store (v := .pointer (some ⟨r, 0, none⟩)) H rfl rfl rfl (by kernel_rfl) .head (by simp) rfl) ?_; clear H; intro w7 H; have z8 := tt)
    | (clear z8; go_at_call 46; refine (hlo.out _).mono ?_; rintro e w8 ⟨rfl, h3⟩; replace H := H.call0 h3; clear h3; have e12 : w8.cell? ⟨b12, 0, none⟩ = some (.pointer (some ⟨r, 0, none⟩)) := H.cell (.head _) 0; have z9 := tt)
    | (clear z9; go_at_call 49; refine (hn3.out w8 r c1 p1 (H.sub1 (.tail _ (.head _))) (SlAt.own BY1.out H (fun k hk hm => (by have := F1.out k hk; simp at hm; omega))) (fun k hk => (F1.out k hk).2.2.2.1)).mono ?_; rintro e w9 ⟨rfl, p4, c4, h3, hb4, hk4⟩; have H2 := Own.callAt (L1 := [_]) H h3; have BY4 := Hh hb4; have F4 := Hh (fun k hk => F1.out k (hk4 k hk)); clear H h3 e12 hb4 hk4; have H := H2; clear H2; have z10 := tt)
    | (clear z10; go_at_call 38; refine (hcd.out _).mono ?_; rintro e w10 ⟨rfl, h3⟩; have H2 := H.call0 h3; have BY10 := Hh (SlAt.own0 BY4.out h3); clear H h3 BY4; have H := H2; clear H2; have z11 := tt)
    | (clear z11; refine st_skip rfl (rn_storeAll (vs := u8s (List.replicate 32 0)) H rfl rfl rfl (by kernel_rfl) (.tail (.tail .head)) (by kernel_rfl) (oneCell_ints _ _)) ?_; clear H; intro w11 H))
   refine fin_cell2 rfl H rfl (.tail _ (.tail _ (.head _))) rfl rfl (by kernel_rfl) rfl rfl ⟨by rw [hno1.out.1, hno1.out.2]; rfl, ?_⟩
   have hw5 := HW5.out.size
   exact Own.transNew HW5.out H (by simp; omega) (by simp; omega)
end Go.Proofs.YtfihlmnbonnekaaGreat
namespace Go.Proofs.YtfihlmnbonnekaaGreat
open Go.RowKit
theorem flatX_congr {X Y : Nat → List Int} : ∀ {i : Nat}, (∀ n, n < i → X n = Y n) → flatX X i = flatX Y i
 | 0, _ => rfl
 | i + 1, h => by rw [flatX_succ, flatX_succ, flatX_congr (fun n hn => h n (by omega)), h i (by omega)]
theorem flatX_piece {X : Nat → List Int} (hl : ∀ i, (X i).length = 32) {n : Nat} : ∀ {i : Nat}, n < i → ((flatX X i).drop (32 * n)).take 32 = X n
 | 0, h => by omega
 | i + 1, h => by
   rw [flatX_succ]
   have hfl := length_flatX hl i
   by_cases e : n = i
   · subst e
     rw [List.drop_append, hfl, Nat.sub_self, List.drop_of_length_le (by omega), List.nil_append, List.drop_zero, List.take_of_length_le (by rw [hl]; omega)]
   · rw [List.drop_append_of_le_length (by omega), List.take_append_of_le_length (by rw [List.length_drop]; omega)]
     exact flatX_piece hl (by omega)
theorem length_sigOf (id seed : List Int) (q k : Nat) (msg : List Int) : (sigOf id seed q k msg).length = 36 + 32 * chN k := by
 unfold sigOf
 rw [List.length_append, List.length_append, length_numB, length_flatX (fun i => length_chainOf ..)]
 rfl
theorem isBytes_sigOf (id seed : List Int) (q k : Nat) (msg : List Int) : IsBytes (sigOf id seed q k msg) :=
 isBytes_app (isBytes_app (isBytes_numB _ _) (isBytes_sha _)) (isBytes_flatX (fun i => isBytes_chainOf _ _ _ _ i) _)
theorem take4_sigOf (id seed : List Int) (q k : Nat) (msg : List Int) : (sigOf id seed q k msg).take 4 = numB (cdN k) 4 := by
 unfold sigOf
 rw [List.append_assoc, List.take_left' (length_numB _ _)]
theorem drop4_sigOf (id seed : List Int) (q k : Nat) (msg : List Int) : ((sigOf id seed q k msg).drop 4).take 32 = randOf id seed q := by
 unfold sigOf
 rw [List.append_assoc, List.drop_left' (length_numB _ _), List.take_left' (show (randOf id seed q).length = 32 from rfl)]
theorem piece_sigOf (id seed : List Int) (q k : Nat) (msg : List Int) {n : Nat} (hn : n < chN k) : pieceOf (sigOf id seed q k msg) n = chainOf id seed q (dgN (msgOf id q (randOf id seed q) msg) k) n := by
 rw [pieceOf_eq (by rw [length_sigOf]; omega), ← List.drop_drop]
 unfold sigOf
 rw [List.drop_left' (by rw [List.length_append, length_numB]; rfl)]
 exact flatX_piece (fun i => length_chainOf ..) hn
theorem candOk_sig (id seed : List Int) (q k : Nat) (msg : List Int) : candOk k (sigOf id seed q k msg) = true := by
 unfold candOk
 rw [decide_eq_true (length_sigOf ..), decide_eq_true (take4_sigOf ..)]
 rfl
theorem cand_sig (id seed : List Int) (q k : Nat) (msg : List Int) : candOf id q k msg (sigOf id seed q k msg) = pubOf id seed q k := by
 unfold candOf
 rw [candOk_sig, if_pos rfl]
 unfold candK pubOf
 rw [drop4_sigOf]
 congr 1
 refine flatX_congr fun n hn => ?_
 unfold candX
 rw [piece_sigOf _ _ _ _ _ hn]
 have h := (dgN_eq (h := msgOf id q (randOf id seed q) msg) hn).2
 unfold chainOf
 generalize dgN (msgOf id q (randOf id seed q) msg) k n = d at h ⊢
 have e := stepsC_add (pre := pre22 id q n) (f := 0) (x := secretOf id seed q n) (m := d) (2 ^ k - 1 - d)
 rw [Nat.zero_add] at e
 rw [e, show d + (2 ^ k - 1 - d) = 2 ^ k - 1 by omega]
theorem candE_sig (id seed : List Int) (q k : Nat) (msg : List Int) : candE k (sigOf id seed q k msg) = 0 := by
 unfold candE
 rw [candOk_sig, if_pos rfl]
theorem cand_any (w : World) (id : List Int) (h16 : id.length = 16) (q k : Nat) (hq : q < 32) (hk : k = 1 ∨ k = 2 ∨ k = 4 ∨ k = 8) (mv sv : Value) (msg sig : List Int) (hm : Old w mv msg) (hmb : IsBytes msg) (hml : msg.length ≤ 90000) (hs : Old w sv sig) (hsb : IsBytes sig) (hsl : sig.length ≤ 1000000) :
 Calls Tryz.prog 51 #[.agg (u8s id).toArray, .int .i64 q, .int .i64 k, mv, sv] w fun e w' => e = .returned (.tuple #[.agg (u8s (candOf id q k msg sig)).toArray, .int .i64 (candE k sig)]) ∧ Own w w' [] := by
 by_cases h : sig.length = 36 + 32 * chN k
 · exact cand_main w id h16 q k hq hk mv sv msg sig hm hmb hml hs hsb h
 · have e : candOk k sig = false := by unfold candOk; rw [decide_eq_false h]; rfl
   have e1 : candOf id q k msg sig = List.replicate 32 0 := by unfold candOf; rw [e]; rfl
   have e2 : candE k sig = 3 := by unfold candE; rw [e]; rfl
   rw [e1, e2]
   exact cand_len w id q k hq hk mv sv sig hs hsl h
theorem length_candOf (id : List Int) (q k : Nat) (msg sig : List Int) : (candOf id q k msg sig).length = 32 := by
 unfold candOf
 split
 · rfl
 · simp
theorem length_pubOf (id seed : List Int) (q k : Nat) : (pubOf id seed q k).length = 32 := rfl
end Go.Proofs.YtfihlmnbonnekaaGreat
namespace Go.Proofs.YtfihlmnbonnekaaGreat
open Go.RowKit
theorem u8s_app (xs ys : List Int) : u8s (xs ++ ys) = u8s xs ++ u8s ys := ints_append ..
end Go.Proofs.YtfihlmnbonnekaaGreat
