/- ots: the document's signature. -/
import Derived.Test.YtfihlmnbonnekaaRefQ
namespace Go.Proofs.Ytfihlmnbonnekaa
open Go.RowKit

set_option maxRecDepth 100000 in
set_option maxHeartbeats 1000000 in
theorem refNumB_any (w : World) (x : Int) (m : Nat) (hm0 : 0 < m) (hm8 : m ≤ 8) :
    Calls Try.prog 18 #[.int .u64 x, .int .i64 m] w fun e w' => ∃ r, e = .returned r ∧ Buf 5 .u8 w w' [] r (numB x m) := by
  have H := Own.refl w
  have hstep : Hid (∀ i, i < m → (numB x m).take (m - (i + 1)) ++ [x / 2 ^ (8 * i) % 256] = (numB x m).take (m - i)) := fun i hi => numB_step hi
  have hlen := Lib.hid (length_numB x m)
  obtain ⟨nb, hnb⟩ : ∃ nb, numB x m = nb := ⟨_, rfl⟩
  rw [hnb] at hstep hlen ⊢
  clear hnb
  have B : Buf 5 .u8 w w [] (.slice none 0 0) [] := Buf.nil H
  clear H
  go_enter Try.func18, Try.ntmps18
  go_wp2_with fail
  go_loopw [5, 6] (fun v5 v6 wr => ∃ i p c, i ≤ m ∧ v6 = .int .i64 ((i : Int) - 1) ∧ v5 = .slice p (m - i) c ∧ Buf 5 .u8 w wr [] v5 (nb.take (m - i))) (fun _ v6 _ => (intOf v6 + 2).toNat)
  case atStart => exact ⟨m, none, 0, by omega, rfl, by simp, by simpa using B⟩
  case round =>
    clear B
    obtain ⟨i, p0, c0, hi, rfl, rfl, B⟩ := hrel
    by_cases hi0 : 0 < i
    · obtain ⟨j, rfl⟩ : ∃ j, i = j + 1 := ⟨i - 1, by omega⟩
      have hj : ((j + 1 : Nat) : Int) - 1 = (j : Int) := by omega
      rw [hj]
      have hl2 : Hid ((nb.take (m - (j + 1))).length = m - (j + 1)) := by show _ = _; have := hlen.out; simp; omega
      have hsum : Hid (m - (j + 1) + 1 = m - j) := by show _ = _; omega
      have hst := Lib.hid (hstep.out j (by omega))
      have hle : m - (j + 1) ≤ 8 := by omega
      clear hj
      go_wp2_with (first
        | (refine st_lit rfl B rfl (cs := u8s [x / 2 ^ (8 * j) % 256]) (el := 5) (fun w' => by kernel_rfl) ?_; clear B; intro b2 w5 hb2 B)
        | (refine st_app (ys := [x / 2 ^ (8 * j) % 256]) rfl B elem_u8 rfl rfl rfl rfl (B.litAt (.head _) rfl) (by rw [hl2.out]; simp; omega) (by rw [hl2.out]; simp; omega) ?_; clear B; intro p6 c6 w6 B; rw [hst.out, hl2.out] at B; rw [hl2.out]; have B2 := B.pop hb2; clear B; have B := B2; clear B2))
      exact ⟨⟨j, p6, c6, by omega, by go_num, by rw [← hsum.out], B⟩, by simp [intOf]; omega⟩
    · obtain rfl : i = 0 := by omega
      have he : Hid (nb.take (m - 0) = nb) := List.take_of_length_le (by rw [hlen.out]; omega)
      rw [he.out] at B
      have hlen2 : Hid (m - 0 = nb.length) := by show _ = _; rw [hlen.out]; rfl
      rw [hlen2.out] at B ⊢
      go_wp2_with fail
      have h1 := Lib.hid B
      clear B
      go_ret
      exact ⟨_, rfl, h1.out⟩

def msgOf (id : List Int) (q : Nat) (c msg : List Int) : List Int := sha (frontq id q ++ ([129, 129] ++ (c ++ msg)))
/-- a digit as a number of steps -/
def dgN (h : List Int) (k n : Nat) : Nat := ((digits h k)[n]?.getD 0).toNat
theorem dgN_eq {h : List Int} {k n : Nat} (hn : n < chN k) : (ints .i64 (digits h k))[n]? = some (.int .i64 (dgN h k n : Nat)) ∧ dgN h k n < 2 ^ k := by
  have hl : n < (digits h k).length := by rw [length_digits]; exact hn
  have hr := digits_range (digits h k)[n] (List.getElem_mem hl)
  have e : (digits h k)[n]?.getD 0 = (digits h k)[n] := by simp [hl]
  rw [ints_get hl]
  unfold dgN
  rw [e]
  have h2 : ((2 : Int) ^ k) = ((2 ^ k : Nat) : Int) := by simp
  rw [h2] at hr
  exact ⟨by rw [Int.toNat_of_nonneg hr.1], by omega⟩
def randOf (id seed : List Int) (q : Nat) : List Int := secretOf id seed q 65533
def sigOf (id seed : List Int) (q k : Nat) (msg : List Int) : List Int := numB (cdN k) 4 ++ randOf id seed q ++ flatX (chainOf id seed q (dgN (msgOf id q (randOf id seed q) msg) k)) (chN k)

/-- a cell of a slice of numbers -/
theorem IIn.cellAt {w : World} {p : Option Addr} {n c : Nat} {xs : List Int} {k : IntKind} (h : IIn k xs w (.slice p n c)) (h0 : 0 < xs.length) : ∃ b off, p = some ⟨b, off, none⟩ ∧ n = xs.length ∧ ∀ i v, (ints k xs)[i]? = some v → w.cell? ⟨b, off + i, none⟩ = some v := by
  obtain ⟨⟨p1, c1, h1⟩, h2, _⟩ := h
  cases h1
  rcases h2 with ⟨_, h3, _⟩ | ⟨b, off, c2, h3, _, h4⟩
  · omega
  · cases h3
    exact ⟨b, off, rfl, rfl, h4⟩

set_option maxRecDepth 100000 in
set_option maxHeartbeats 4000000 in
theorem refSign_any (w : World) (id seed : List Int) (h16 : id.length = 16) (h32 : seed.length = 32) (hid : IsBytes id) (hsd : IsBytes seed) (q k : Nat) (hq : q < 32) (hk : k = 1 ∨ k = 2 ∨ k = 4 ∨ k = 8) (mv : Value) (msg : List Int) (hm : Old w mv msg) (hmb : IsBytes msg) (hml : msg.length ≤ 90000) :
    Calls Try.prog 46 #[.agg (u8s (id ++ seed)).toArray, .int .i64 q, .int .i64 k, mv] w fun e w' => ∃ r, e = .returned r ∧ BIn (sigOf id seed q k msg) w' r ∧ Own w w' [] := by
  have H := Own.refl w
  have hch := Lib.hid (fun w' => refChains_k w' k hk)
  obtain ⟨hC0, hC1⟩ := chN_le k
  have hk8 : k ≤ 8 := by omega
  have hsig0 : sigOf id seed q k msg = numB (cdN k) 4 ++ randOf id seed q ++ flatX (chainOf id seed q (dgN (msgOf id q (randOf id seed q) msg) k)) (chN k) := rfl
  obtain ⟨Cr, hCr⟩ : ∃ c, c = randOf id seed q := ⟨_, rfl⟩
  have hCrl : Hid (Cr.length = 32) := by show _ = _; rw [hCr]; rfl
  have hCrb : Hid (IsBytes Cr) := by rw [hCr]; exact isBytes_sha _
  have hsr : Hid (∀ w', Calls Try.prog 65 #[.agg (u8s (id ++ seed)).toArray, .int .i64 q, .int .i64 65533] w' fun e w'' => e = .returned (.agg (u8s Cr).toArray) ∧ Own w' w'' []) := fun w' => by rw [hCr]; exact secret_any w' id seed h16 h32 hid hsd q 65533 (by omega) (by omega)
  obtain ⟨M, hM⟩ : ∃ M, M = msgOf id q Cr msg := ⟨_, rfl⟩
  have hMl : Hid (M.length = 32) := by show _ = _; rw [hM]; rfl
  have hMb : Hid (IsBytes M) := by rw [hM]; exact isBytes_sha _
  have hmsg : Hid (∀ w' cv mv, Old w' cv Cr → Old w' mv msg → Calls Try.prog 78 #[.agg (u8s id).toArray, .int .i64 q, cv, mv] w' fun e w'' => e = .returned (.agg (u8s M).toArray) ∧ Own w' w'' []) := fun w' cv mv h1 h2 => by rw [hM]; exact message_any w' id h16 hid q (by omega) cv mv Cr msg h1 hCrb.out (by rw [hCrl.out]; omega) h2 hmb (by omega)
  have hdig : Hid (∀ w', Calls Try.prog 77 #[.int .i64 k, .agg (u8s M).toArray] w' fun e w'' => ∃ v, e = .returned v ∧ IIn .i64 (digits M k) w'' v ∧ Own w' w'' []) := fun w' => refDigits_any w' k hk M hMl.out hMb.out
  have hcd := Lib.hid (fun w' => refCode_any w' k hk)
  obtain ⟨cd, hcd1⟩ : ∃ c, c = cdN k := ⟨_, rfl⟩
  have hnum : Hid (∀ w', Calls Try.prog 18 #[.int .u64 cd, .int .i64 4] w' fun e w'' => ∃ r, e = .returned r ∧ Buf 5 .u8 w' w'' [] r (numB cd 4)) := fun w' => refNumB_any w' cd 4 (by omega) (by omega)
  have hdl := Lib.hid (length_digits M k)
  have hdn : Hid (∀ n, n < chN k → (ints .i64 (digits M k))[n]? = some (.int .i64 (dgN M k n : Nat)) ∧ dgN M k n < 2 ^ k) := fun n hn => dgN_eq hn
  obtain ⟨ds, hds⟩ : ∃ d, d = digits M k := ⟨_, rfl⟩
  obtain ⟨D, hD⟩ : ∃ d, d = dgN M k := ⟨_, rfl⟩
  have hp256 : (2 : Nat) ^ k ≤ 256 := by have := Nat.pow_le_pow_right (n := 2) (by omega) hk8; omega
  obtain ⟨X, hX⟩ : ∃ X, X = chainOf id seed q D := ⟨_, rfl⟩
  have hXl : Hid (∀ i, (X i).length = 32) := fun i => by rw [hX]; exact length_chainOf ..
  have hsec : Hid (∀ w' n, n < 300 → Calls Try.prog 65 #[.agg (u8s (id ++ seed)).toArray, .int .i64 q, .int .i64 (n : Nat)] w' fun e w'' => e = .returned (.agg (u8s (secretOf id seed q n)).toArray) ∧ Own w' w'' []) := fun w' n hn => secret_any w' id seed h16 h32 hid hsd q n (by omega) (by omega)
  have hal : Hid (∀ w' n, n < chN k → Calls Try.prog 75 #[.agg (u8s id).toArray, .int .i64 q, .int .i64 (n : Nat), .int .i64 0, .int .i64 (D n : Nat), .agg (u8s (secretOf id seed q n)).toArray] w' fun e w'' => e = .returned (.agg (u8s (X n)).toArray) ∧ Own w' w'' []) := fun w' n hn => by
    have h2 : D n < 2 ^ k := by rw [hD]; exact (hdn.out n hn).2
    have h := refAlong_any w' id (secretOf id seed q n) h16 rfl hid (isBytes_sha _) q n 0 (D n) (by omega) (by omega) (by omega) (by omega)
    rw [show stepsC (pre22 id q n) 0 (secretOf id seed q n) (D n - 0) = X n by rw [hX, Nat.sub_zero]; rfl] at h
    exact h
  rw [← hCr, ← hM, ← hcd1, ← hD, ← hX] at hsig0
  have hsig := Lib.hid hsig0
  obtain ⟨R, hR⟩ : ∃ R, R = sigOf id seed q k msg := ⟨_, rfl⟩
  rw [← hR] at hsig ⊢
  obtain ⟨S, hS⟩ : ∃ S, S = secretOf id seed q := ⟨_, rfl⟩
  obtain ⟨C, hC⟩ : ∃ C, C = chN k := ⟨_, rfl⟩
  have hsz := Lib.hid (size_idL h16)
  have hsz48 := Lib.hid (size_secretL h16 h32)
  rw [← hD] at hdn
  rw [← hds] at hdig hdl hdn
  rw [← hC] at hch hC0 hC1 hdl hdn hal hsig
  rw [← hcd1] at hcd
  simp only [← hS] at hsec hal
  have hO : Hid (Old w mv msg) := hm
  obtain ⟨pm, cm, rfl⟩ := hm.shape
  obtain ⟨ln, hln⟩ : ∃ n, n = msg.length := ⟨_, rfl⟩
  rw [← hln] at hO ⊢
  clear hX hC hR hS hid hsd h16 h32 hk hCr hM hcd1 hds hD hsig0 hm hmb hml hln hp256
  go_enter Try.func46, Try.ntmps46
  have tok1 : True := trivial
  go_wp2_with (first
    | (clear tok1; refine st_new rfl (rn_box (cs := u8s (id ++ seed)) H rfl rfl rfl) ?_; clear H; intro b4 w1 hb4 H; have tok2 : True := trivial)
    | (clear tok2; refine st_val rfl (rn_loadAll (cs := u8s (id ++ seed)) H rfl rfl (.head _) rfl rfl hsz48.out) ?_; have tok3 : True := trivial)
    | (clear tok3; go_at_call 65; refine (hsr.out _).mono ?_; rintro e w2 ⟨rfl, h3⟩; have H2 := H.call0 h3; clear H h3; have H := H2; clear H2; have tok4 : True := trivial)
    | (clear tok4; refine st_new rfl (rn_alloc H rfl info_hash) ?_; clear H; intro b9 w3 hb9 H; have tok5 : True := trivial)
    | (clear tok5; refine st_skip rfl (rn_storeAll (vs := u8s Cr) H rfl rfl rfl (size_hashL hCrl.out) .head (by rw [length_ints, length_ints, hCrl.out]; rfl) (oneCell_ints _ _)) ?_; clear H; intro w4 H))
  have hc16 : Hid (∀ w', Own w4 w' [] → ∀ j v, (u8s id)[j]? = some v → w'.cell? ⟨b4, 0 + j, none⟩ = some v) := fun w' h j v hj => (H.call0 h).rowL (.tail _ (.head _)) j v hj
  have hc48 : Hid (∀ w', Own w4 w' [] → ∀ j v, (u8s (id ++ seed))[j]? = some v → w'.cell? ⟨b4, 0 + j, none⟩ = some v) := fun w' h j v hj => by rw [(H.call0 h).cell (.tail _ (.head _)), Nat.zero_add]; exact hj
  have hcr : Hid (∀ w', Own w4 w' [] → Old w' (.slice (some ⟨b9, 0, none⟩) 32 32) Cr) := fun w' h => ⟨Own.litM (H.call0 h) (.head _) hCrl.out.symm, fun k hk => by obtain rfl := (blk_some hk).1; exact (H.call0 h).lt (.head _)⟩
  have hmo : Hid (∀ w', Own w4 w' [] → Old w' (.slice pm ln cm) msg) := fun w' h => hO.out.mv (H.call0 h) (by simp; omega)
  have H4 := Lib.hid H
  clear H
  refine region_grow 8 (by kernel_rfl) (by kernel_rfl) (by kernel_rfl) [.val (.int .i64 k), .val (.pointer (some ⟨b4, 0, none⟩)), .val (.agg (u8s id).toArray), .val (.int .i64 q), .val (.slice (some ⟨b9, 0, none⟩) 32 32), .val (.slice pm ln cm), .val (.agg (u8s M).toArray), .rel (IIn .i64 ds)] rfl ?_
  have tok3 : True := trivial
  try go_frame
  repeat (first
    | (clear tok3; refine sp_run (v := .agg (u8s id).toArray) rfl (fun w' hw' _ => rn_cells rfl rfl rfl rfl hsz.out (hc16.out w' hw')) ?_; go_frame; have tok4 : True := trivial)
    | (clear tok4; refine sp_run (v := .slice (some ⟨b9, 0, none⟩) 32 32) rfl (fun w' hw' _ => rn_sliceAll rfl rfl size_u8 rfl (by omega)) ?_; go_frame; have tok5 : True := trivial)
    | (clear tok5; refine sp_callN (v := .agg (u8s M).toArray) (args := #[.agg (u8s id).toArray, .int .i64 q, .slice (some ⟨b9, 0, none⟩) 32 32, .slice pm ln cm]) rfl rfl (by simp [Act.eval]) Try.func78 (by kernel_rfl) (by kernel_rfl) (fun w' hw' _ => hmsg.out w' _ _ (hcr.out w' hw') (hmo.out w' hw')) ?_; go_frame; have tok6 : True := trivial)
    | (clear tok6; refine sp_callR (args := #[.int .i64 k, .agg (u8s M).toArray]) (IIn.mono _ _) rfl rfl (by simp [Act.eval]) Try.func77 (by kernel_rfl) (by kernel_rfl) (fun w' _ _ => hdig.out w') ?_; intro v24; go_frame)
    | (refine sp_val (fun w' hw' hF => ?_) ⟨_, rfl, Nat.le_of_ble_eq_true rfl⟩ ?_
       · go_big_quiet_step (fail)
         exact rfl
       try go_frame))
  refine sp_nil ?_
  intro w5 hw' hF
  have h24 := hF.2 _ rfl trivial
  have h24b := h24.1
  obtain ⟨p24, c24, e24⟩ := h24b
  subst e24
  obtain ⟨gd, od, e24, _, hdc⟩ := h24.cellAt (by rw [hdl.out]; omega)
  subst e24
  have hdc' : Hid (∀ w', Own w5 w' [] → ∀ n, n < C → w'.cell? ⟨gd, od + n, none⟩ = some (.int .i64 (D n : Nat))) := fun w' h n hn => h.old (hdc n _ (hdn.out n hn).1) (by simp)
  have H5 := Lib.hid hw'
  rw [hdl.out]
  clear hdc h24 hw' hF hmsg hdig hsr hmo
  simp only [List.drop_succ_cons, List.drop_zero]
  go_wp2_with fail
  refine region_grow 4 (by kernel_rfl) (by kernel_rfl) (by kernel_rfl) [.val (.int .i64 k), .val (.int .u64 cd), .rel (fun w' v => Buf 5 .u8 w5 w' [] v (numB cd 4)), .val (.slice (some ⟨b9, 0, none⟩) 32 32)] rfl ?_
  have tok3 : True := trivial
  try go_frame
  repeat (first
    | (clear tok3; refine sp_callN (v := .int .u64 cd) (args := #[.int .i64 k]) rfl rfl (by simp [Act.eval]) Try.func47 (by kernel_rfl) (by kernel_rfl) (fun w' _ _ => hcd.out w') ?_; go_frame; have tok4 : True := trivial)
    | (clear tok4; refine sp_callR (args := #[.int .u64 cd, .int .i64 4]) Buf.mono rfl rfl (by simp [Act.eval]) Try.func18 (by kernel_rfl) (by kernel_rfl) (fun w' hw' _ => (hnum.out w').mono fun e w'' ⟨r, h1, h2⟩ => ⟨r, h1, hw'.callBuf h2, h2.own0⟩) ?_; intro v27; go_frame; have tok5 : True := trivial)
    | (clear tok5; refine sp_run (v := .slice (some ⟨b9, 0, none⟩) 32 32) rfl (fun w' hw' _ => rn_sliceAll rfl rfl size_u8 rfl (by omega)) ?_; go_frame)
    | (refine sp_val (fun w' hw' hF => ?_) ⟨_, rfl, Nat.le_of_ble_eq_true rfl⟩ ?_
       · go_big_quiet_step (fail)
         exact rfl
       try go_frame))
  refine sp_nil ?_
  intro w6 hw' hF
  have B := hF.2 _ rfl trivial
  obtain ⟨p27, c27, e27⟩ := B.slice
  subst e27
  have hnl := Lib.hid (length_numB cd 4)
  have hs36 : Hid ((numB cd 4).length + Cr.length = 36) := by show _ = _; rw [hnl.out, hCrl.out]
  clear hw' hF hcd hnum
  simp only [List.drop_succ_cons, List.drop_zero]
  rw [hnl.out] at B ⊢
  obtain ⟨A4, hA4⟩ : ∃ a, a = numB cd 4 := ⟨_, rfl⟩
  rw [← hA4] at B hnl hs36 hsig
  clear hA4
  go_wp2_with (refine st_app (ys := Cr) rfl B elem_u8 rfl rfl rfl rfl (by have h := (hcr.out _ (H5.out.trans B.own0)).1; exact h) (by rw [hs36.out]; omega) (by rw [hs36.out]; omega) ?_; clear B; intro p7 c7 w7 B; rw [hs36.out] at B ⊢)
  have hA36 : Hid ((A4 ++ Cr).length = 36) := by show _ = _; rw [List.length_append]; exact hs36.out
  obtain ⟨A36, hA⟩ : ∃ a, a = A4 ++ Cr := ⟨_, rfl⟩
  rw [← hA] at B hA36 hsig
  clear hA
  go_loopw [11, 12] (fun v11 v12 wr => ∃ (i : Nat) (p : Option Addr) (c : Nat), i ≤ C ∧ v12 = .int .i64 ((i : Nat) : Int) ∧ v11 = .slice p (36 + 32 * i) c ∧ Buf 5 .u8 w5 wr [] v11 (A36 ++ flatX X i)) (fun _ v12 _ => ((C : Nat) - intOf v12).toNat)
  case atStart => exact ⟨0, _, _, by omega, rfl, rfl, by rw [flatX_zero, List.append_nil]; exact B⟩
  case round =>
    clear B
    obtain ⟨i, p, c, hi, rfl, rfl, B⟩ := hrel
    by_cases hin : i < C
    · have hs1 : Hid (∀ w', Calls Try.prog 65 #[.agg (u8s (id ++ seed)).toArray, .int .i64 q, .int .i64 i] w' fun e w'' => e = .returned (.agg (u8s (S i)).toArray) ∧ Own w' w'' []) := fun w' => hsec.out w' i (by omega)
      have ha1 : Hid (∀ w', Calls Try.prog 75 #[.agg (u8s id).toArray, .int .i64 q, .int .i64 i, .int .i64 0, .int .i64 (D i : Nat), .agg (u8s (S i)).toArray] w' fun e w'' => e = .returned (.agg (u8s (X i)).toArray) ∧ Own w' w'' []) := fun w' => hal.out w' i hin
      have hd1 : Hid (∀ w', Own w5 w' [] → w'.cell? ⟨gd, od + i, none⟩ = some (.int .i64 (D i : Nat))) := fun w' h => hdc'.out w' h i hin
      have hxl := Lib.hid (hXl.out i)
      have hst : Hid (A36 ++ flatX X (i + 1) = A36 ++ flatX X i ++ X i) := by show _ = _; rw [flatX_succ, List.append_assoc]
      have hfl : Hid ((A36 ++ flatX X i).length = 36 + 32 * i) := by show _ = _; rw [List.length_append, hA36.out, length_flatX hXl.out]
      obtain ⟨Si, hSi⟩ : ∃ s, s = S i := ⟨_, rfl⟩
      obtain ⟨Xi, hXi⟩ : ∃ s, s = X i := ⟨_, rfl⟩
      obtain ⟨Di, hDi⟩ : ∃ s, s = D i := ⟨_, rfl⟩
      rw [← hSi, ← hXi, ← hDi] at ha1
      rw [← hSi] at hs1
      rw [← hDi] at hd1
      rw [← hXi] at hxl hst
      clear hSi hXi hDi
      go_wp2_with (go_at_call 74; refine (hch.out _).mono ?_; rintro e w8 ⟨rfl, h3⟩; have B2 := B.call0 h3; clear B h3; have B := B2; clear B2)
      have BW := Lib.hid B
      have hw48 : Hid (∀ w', Own w8 w' [] → Own w4 w' []) := fun w' h => H5.out.trans (BW.out.own0.trans h)
      clear B
      refine region_grow 14 (by kernel_rfl) (by kernel_rfl) (by kernel_rfl) [.val (.pointer (some ⟨b4, 0, none⟩)), .val (.agg (u8s id).toArray), .val (.int .i64 q), .val (.int .i64 i), .val (.slice (some ⟨gd, od, none⟩) C c24), .val (.int .i64 i), .val (.pointer (some ⟨gd, od + i, none⟩)), .val (.int .i64 Di), .val (.agg (u8s (id ++ seed)).toArray), .val (.int .i64 q), .val (.int .i64 i), .val (.agg (u8s Si).toArray), .val (.agg (u8s Xi).toArray), .rel (NewC w8.heap.size (u8s (List.replicate 32 0)) 28)] rfl ?_
      have tok3 : True := trivial
      try go_frame
      repeat (first
        | (clear tok3; refine sp_run (v := .agg (u8s id).toArray) rfl (fun w' hw' _ => rn_cells rfl rfl rfl rfl hsz.out (hc16.out w' (hw48.out w' hw'))) ?_; go_frame; have tok4 : True := trivial)
        | (clear tok4; refine sp_run (v := .int .i64 Di) rfl (fun w' hw' _ => rn_cell rfl rfl rfl rfl (hd1.out w' (BW.out.own0.trans hw'))) ?_; go_frame; have tok5 : True := trivial)
        | (clear tok5; refine sp_run (v := .agg (u8s (id ++ seed)).toArray) rfl (fun w' hw' _ => rn_cells rfl rfl rfl rfl hsz48.out (hc48.out w' (hw48.out w' hw'))) ?_; go_frame; have tok6 : True := trivial)
        | (clear tok6; refine sp_callN (v := .agg (u8s Si).toArray) (args := #[.agg (u8s (id ++ seed)).toArray, .int .i64 q, .int .i64 i]) rfl rfl (by simp [Act.eval]) Try.func65 (by kernel_rfl) (by kernel_rfl) (fun w' _ _ => hs1.out w') ?_; go_frame; have tok7 : True := trivial)
        | (clear tok7; refine sp_callN (v := .agg (u8s Xi).toArray) (args := #[.agg (u8s id).toArray, .int .i64 q, .int .i64 i, .int .i64 0, .int .i64 Di, .agg (u8s Si).toArray]) rfl rfl (by simp [Act.eval]) Try.func75 (by kernel_rfl) (by kernel_rfl) (fun w' _ _ => ha1.out w') ?_; go_frame; have tok8 : True := trivial)
        | (clear tok8; refine sp_rel NewC.mono rfl (fun w' hw' _ => newC_alloc rfl info_hash hw'.size) ?_; intro v13; go_frame)
        | (refine sp_val (fun w' hw' hF => ?_) ⟨_, rfl, Nat.le_of_ble_eq_true rfl⟩ ?_
           · go_big_quiet_step (fail)
             exact rfl
           try go_frame))
      refine sp_nil ?_
      intro w9 hw' hF
      obtain ⟨g, rfl, hg, hgc⟩ := hF.2 _ rfl trivial
      have B := BW.out.adopt hw' hg hgc
      have hgn := Lib.hid (Nat.le_trans BW.out.own0.size hg)
      clear hw' hF hg hgc hs1 ha1 BW hd1 hw48
      simp only [List.drop_succ_cons, List.drop_zero]
      have hsum : Hid ((A36 ++ flatX X i).length + Xi.length = 36 + 32 * (i + 1)) := by show _ = _; rw [hfl.out, hxl.out]; omega
      go_wp2_with (first
        | (refine st_bufPut (vs := u8s Xi) rfl B rfl rfl rfl (by rw [length_ints, hxl.out]; exact size_hash) (by rw [length_ints, length_ints, hxl.out]; rfl) (oneCell_ints _ _) ?_; clear B; intro w10 B)
        | (refine st_val rfl (rn_sliceAll rfl rfl size_u8 rfl (by omega)) ?_)
        | (refine st_app (ys := Xi) rfl B elem_u8 rfl rfl rfl rfl (by have h := Own.litM (T := 28) B.own0 (.head _) hxl.out.symm; exact h) (by rw [hsum.out]; omega) (by rw [hsum.out]; omega) ?_; clear B; intro p11 c11 w11 B; rw [← hst.out] at B; rw [hsum.out] at B ⊢; have B2 := B.pop hgn.out; clear B; have B := B2; clear B2))
      exact ⟨⟨i + 1, _, _, by omega, by go_num, rfl, B⟩, by simp [intOf]; omega⟩
    · obtain rfl : i = C := by omega
      rw [← hsig.out] at B
      go_wp2_with (go_at_call 74; refine (hch.out _).mono ?_; rintro e w8 ⟨rfl, h3⟩; have B2 := B.call0 h3; clear B h3; have B := B2; clear B2)
      have h1 := Lib.hid B
      clear B
      go_ret
      exact ⟨_, rfl, h1.out.bin, (H4.out.call0 (H5.out.trans h1.out.own0)).end0 (by simp; omega)⟩

end Go.Proofs.Ytfihlmnbonnekaa
