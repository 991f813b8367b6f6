/- ots: the document's public key. -/
import Derived.Test.YtfihlmnbonnekaaRefP
namespace Go.Proofs.Ytfihlmnbonnekaa
open Go.RowKit

theorem Own.adopt {w0 w : World} {L : List Ent} (H : Own w0 w L) {g : Nat} {cs : List Value} {T : TypeId} (hg : w.heap[g]? = some (.cells cs.toArray T (0, 0))) (hn : g ∉ L.map (·.1)) : Own w0 w ((g, cs, T) :: L) := by
  refine ⟨H.os, H.tape, H.output, H.size, fun k hk hkn => H.keep k hk (fun h => hkn (by simp only [List.map_cons, List.mem_cons]; exact Or.inr h)), by simp only [List.map_cons, List.nodup_cons]; exact ⟨hn, H.nodup⟩, fun b cs1 T1 hm => ?_⟩
  rcases List.mem_cons.1 hm with h | h
  · cases h; exact hg
  · exact H.here b cs1 T1 h

/-- a cell that is not older than B -/
def NewC (B : Nat) (cs : List Value) (T : TypeId) : World → Value → Prop := fun w v => ∃ g, v = .pointer (some ⟨g, 0, none⟩) ∧ B ≤ g ∧ w.heap[g]? = some (.cells cs.toArray T (0, 0))
theorem NewC.mono {B : Nat} {cs : List Value} {T : TypeId} : Mono (NewC B cs T) := fun w1 w2 v h ⟨g, h1, h2, h3⟩ => ⟨g, h1, h2, by rw [h.keep g (Array.getElem?_eq_some_iff.1 h3).1 (by simp)]; exact h3⟩
theorem newC_alloc {P : Program} {o : Oper} {a : Act} {w w1 : World} {ty : TypeId} {cs : List Value} (ho : o.op = .alloc ty) (hz : ((P.info? ty).bind (·.zero)).map (fun z => z.cells.toList) = some cs) (hw : w.heap.size ≤ w1.heap.size) :
    YieldsTo P o a w1 (fun v w' => Own w1 w' [] ∧ NewC w.heap.size cs ty w' v) := by
  obtain ⟨n, w2, hr, hn, ho1⟩ := rn_alloc (P := P) (o := o) (a := a) (Own.refl w1) ho hz
  exact yieldsTo_val' hr ⟨ho1.end0 (by simpa using hn), n, rfl, Nat.le_trans hw hn, ho1.here _ _ _ (.head _)⟩

theorem Buf.adopt {e : TypeId} {k : IntKind} {w0 w w' : World} {L : List Ent} {v : Value} {xs : List Int} (E : Buf e k w0 w L v xs) (hw : Own w w' []) {g : Nat} {cs : List Value} {T : TypeId} (hg : w.heap.size ≤ g) (hc : w'.heap[g]? = some (.cells cs.toArray T (0, 0))) : Buf e k w0 w' ((g, cs, T) :: L) v xs := by
  obtain ⟨Lv, h1, h2, h3⟩ := E
  refine ⟨Lv, h1, (Own.adopt (h2.call0 hw) hc fun hm => ?_).perm List.perm_middle.symm, h3⟩
  obtain ⟨x, hx, rfl⟩ := List.mem_map.1 hm
  have := h2.lt (b := x.1) (cs := x.2.1) (T := x.2.2) hx
  omega

theorem two_pow {k : Nat} (hk : k = 1 ∨ k = 2 ∨ k = 4 ∨ k = 8) : ∃ t : Nat, t ≤ 255 ∧ t + 1 = 2 ^ k ∧ t = 2 ^ k - 1 ∧ wrap64 ((2 : Int) ^ k) = (t : Int) + 1 := by
  rcases hk with rfl | rfl | rfl | rfl
  · exact ⟨1, by decide, rfl, rfl, by unfold wrap64; simp⟩
  · exact ⟨3, by decide, rfl, rfl, by unfold wrap64; simp⟩
  · exact ⟨15, by decide, rfl, rfl, by unfold wrap64; simp⟩
  · exact ⟨255, by decide, rfl, rfl, by unfold wrap64; simp⟩

/-- one behind the other -/
def flatX (X : Nat → List Int) (i : Nat) : List Int := (List.range i).flatMap X
theorem flatX_zero (X : Nat → List Int) : flatX X 0 = [] := rfl
theorem flatX_succ (X : Nat → List Int) (i : Nat) : flatX X (i + 1) = flatX X i ++ X i := by simp [flatX, List.range_succ]
theorem length_flatX {X : Nat → List Int} (h : ∀ i, (X i).length = 32) : ∀ i, (flatX X i).length = 32 * i
  | 0 => rfl
  | i + 1 => by rw [flatX_succ, List.length_append, length_flatX h i, h i]; omega
theorem isBytes_flatX {X : Nat → List Int} (h : ∀ i, IsBytes (X i)) : ∀ i, IsBytes (flatX X i)
  | 0 => isBytes_nil
  | i + 1 => by rw [flatX_succ]; exact isBytes_app (isBytes_flatX h i) (h i)

def secretOf (id seed : List Int) (q n : Nat) : List Int := sha (pre22 id q n ++ 255 :: seed)
/-- a chain's value -/
def chainOf (id seed : List Int) (q : Nat) (d : Nat → Nat) (n : Nat) : List Int := stepsC (pre22 id q n) 0 (secretOf id seed q n) (d n)
theorem length_chainOf (id seed : List Int) (q : Nat) (d : Nat → Nat) (n : Nat) : (chainOf id seed q d n).length = 32 := length_stepsC rfl _
theorem isBytes_chainOf (id seed : List Int) (q : Nat) (d : Nat → Nat) (n : Nat) : IsBytes (chainOf id seed q d n) := isBytes_stepsC (isBytes_sha _) _
def endsOf (id : List Int) (q : Nat) (l : List Int) : List Int := sha (frontq id q ++ ([128, 128] ++ l))
def pubOf (id seed : List Int) (q k : Nat) : List Int := endsOf id q (flatX (chainOf id seed q fun _ => 2 ^ k - 1) (chN k))

theorem size_secret : (Try.prog.info? 30).map (·.size) = some 48 := by kernel_rfl
theorem size_secretL {id seed : List Int} (h1 : id.length = 16) (h2 : seed.length = 32) : (Try.prog.info? 30).map (·.size) = some (u8s (id ++ seed)).length := by rw [length_ints, List.length_append, h1, h2]; exact size_secret

set_option maxRecDepth 100000 in
set_option maxHeartbeats 4000000 in
theorem refPublic_any (w : World) (id seed : List Int) (h16 : id.length = 16) (h32 : seed.length = 32) (hid : IsBytes id) (hsd : IsBytes seed) (q k : Nat) (hq : q < 32) (hk : k = 1 ∨ k = 2 ∨ k = 4 ∨ k = 8) :
    Calls Try.prog 44 #[.agg (u8s (id ++ seed)).toArray, .int .i64 q, .int .i64 k] w fun e w' => e = .returned (.agg (u8s (pubOf id seed q k)).toArray) ∧ Own w w' [] := by
  have H := Own.refl w
  obtain ⟨t, ht255, ht1, ht2, hsh⟩ := two_pow hk
  have hch := Lib.hid (fun w' => refChains_k w' k hk)
  obtain ⟨hC0, hC1⟩ := chN_le k
  obtain ⟨C, hC⟩ : ∃ C, C = chN k := ⟨_, rfl⟩
  obtain ⟨X, hX⟩ : ∃ X, X = chainOf id seed q fun _ => 2 ^ k - 1 := ⟨_, rfl⟩
  have hXl : Hid (∀ i, (X i).length = 32) := fun i => by rw [hX]; exact length_chainOf ..
  have hXb : Hid (∀ i, IsBytes (X i)) := fun i => by rw [hX]; exact isBytes_chainOf _ _ _ _ _
  have hsec : Hid (∀ w' n, n < 300 → Calls Try.prog 65 #[.agg (u8s (id ++ seed)).toArray, .int .i64 q, .int .i64 (n : Nat)] w' fun e w'' => e = .returned (.agg (u8s (secretOf id seed q n)).toArray) ∧ Own w' w'' []) := fun w' n hn => secret_any w' id seed h16 h32 hid hsd q n (by omega) (by omega)
  have hal : Hid (∀ w' n, n < 300 → Calls Try.prog 75 #[.agg (u8s id).toArray, .int .i64 q, .int .i64 (n : Nat), .int .i64 0, .int .i64 t, .agg (u8s (secretOf id seed q n)).toArray] w' fun e w'' => e = .returned (.agg (u8s (X n)).toArray) ∧ Own w' w'' []) := fun w' n hn => by
    have h := refAlong_any w' id (secretOf id seed q n) h16 rfl hid (isBytes_sha _) q n 0 t (by omega) (by omega) (by omega) (by omega)
    rw [show stepsC (pre22 id q n) 0 (secretOf id seed q n) (t - 0) = X n by rw [hX, Nat.sub_zero, ht2]; rfl] at h
    exact h
  have hends : Hid (∀ w' lv lb, Old w' lv lb → IsBytes lb → lb.length ≤ 100000 → Calls Try.prog 76 #[.agg (u8s id).toArray, .int .i64 q, lv] w' fun e w'' => e = .returned (.agg (u8s (endsOf id q lb)).toArray) ∧ Own w' w'' []) := fun w' lv lb h1 h2 h3 => ends_any w' id h16 hid q (by omega) lv lb h1 h2 h3
  have hres : Hid (pubOf id seed q k = endsOf id q (flatX X C)) := by show _ = _; rw [hX, hC]; rfl
  obtain ⟨R, hR⟩ : ∃ R, R = pubOf id seed q k := ⟨_, rfl⟩
  rw [← hR] at hres ⊢
  have hRl : Hid (R.length = 32) := by show _ = _; rw [hR]; rfl
  obtain ⟨S, hS⟩ : ∃ S, S = secretOf id seed q := ⟨_, rfl⟩
  have hsz := Lib.hid (size_idL h16)
  have hsz48 := Lib.hid (size_secretL h16 h32)
  rw [← hC] at hch hC0 hC1
  simp only [← hS] at hsec hal
  have hk8 : k ≤ 8 := by omega
  clear hX hC hR hS hid hsd h16 h32 hk ht1 ht2
  go_enter Try.func44, Try.ntmps44
  have tok1 : True := trivial
  go_wp2_with (first
    | (clear tok1; refine st_new rfl (rn_box (cs := u8s (id ++ seed)) H rfl rfl rfl) ?_; clear H; intro b3 w1 hb3 H; have tok2 : True := trivial)
    | (clear tok2; refine st_new rfl (rn_alloc H rfl info_hash) ?_; clear H; intro b6 w3 hb6 H))
  have hc16 : Hid (∀ w', Own w3 w' [] → ∀ j v, (u8s id)[j]? = some v → w'.cell? ⟨b3, 0 + j, none⟩ = some v) := fun w' h j v hj => (H.call0 h).rowL (.tail _ (.head _)) j v hj
  have hc48 : Hid (∀ w', Own w3 w' [] → ∀ j v, (u8s (id ++ seed))[j]? = some v → w'.cell? ⟨b3, 0 + j, none⟩ = some v) := fun w' h j v hj => by rw [(H.call0 h).cell (.tail _ (.head _)), Nat.zero_add]; exact hj
  have H3 := Lib.hid H
  clear H
  have B := Buf.nil (e := 5) (k := .u8) (Own.refl w3)
  go_loopw [7, 8] (fun v7 v8 wr => ∃ (i : Nat) (p : Option Addr) (c : Nat), i ≤ C ∧ v8 = .int .i64 ((i : Nat) : Int) ∧ v7 = .slice p (32 * i) c ∧ Buf 5 .u8 w3 wr [] v7 (flatX X i)) (fun _ v8 _ => ((C : Nat) - intOf v8).toNat)
  case atStart => exact ⟨0, none, 0, by omega, rfl, rfl, B⟩
  case round =>
    clear B
    obtain ⟨i, p, c, hi, rfl, rfl, B⟩ := hrel
    by_cases hin : i < C
    · have hs1 : Hid (∀ w', Calls Try.prog 65 #[.agg (u8s (id ++ seed)).toArray, .int .i64 q, .int .i64 i] w' fun e w'' => e = .returned (.agg (u8s (S i)).toArray) ∧ Own w' w'' []) := fun w' => hsec.out w' i (by omega)
      have ha1 : Hid (∀ w', Calls Try.prog 75 #[.agg (u8s id).toArray, .int .i64 q, .int .i64 i, .int .i64 0, .int .i64 t, .agg (u8s (S i)).toArray] w' fun e w'' => e = .returned (.agg (u8s (X i)).toArray) ∧ Own w' w'' []) := fun w' => hal.out w' i (by omega)
      have hxl := Lib.hid (hXl.out i)
      have hst := Lib.hid (flatX_succ X i)
      have hfl := Lib.hid (length_flatX hXl.out i)
      obtain ⟨Si, hSi⟩ : ∃ s, s = S i := ⟨_, rfl⟩
      obtain ⟨Xi, hXi⟩ : ∃ s, s = X i := ⟨_, rfl⟩
      rw [← hSi, ← hXi] at ha1
      rw [← hSi] at hs1
      rw [← hXi] at hxl hst
      clear hSi hXi
      go_wp2_with (go_at_call 74; refine (hch.out _).mono ?_; rintro e w4 ⟨rfl, h3⟩; have B2 := B.call0 h3; clear B h3; have B := B2; clear B2)
      have BW := Lib.hid B
      clear B
      refine region_grow 14 (by kernel_rfl) (by kernel_rfl) (by kernel_rfl) [.val (.pointer (some ⟨b3, 0, none⟩)), .val (.agg (u8s id).toArray), .val (.int .i64 q), .val (.int .i64 i), .val (.int .i64 k), .val (.int .u64 k), .val (.int .i64 ((t : Int) + 1)), .val (.int .i64 t), .val (.agg (u8s (id ++ seed)).toArray), .val (.int .i64 q), .val (.int .i64 i), .val (.agg (u8s Si).toArray), .val (.agg (u8s Xi).toArray), .rel (NewC w4.heap.size (u8s (List.replicate 32 0)) 28)] rfl ?_
      have tok3 : True := trivial
      try go_frame
      repeat (first
        | (clear tok3; refine sp_run (v := .agg (u8s id).toArray) rfl (fun w' hw' _ => rn_cells rfl rfl rfl rfl hsz.out (hc16.out w' (BW.out.own0.trans hw'))) ?_; go_frame; have tok4 : True := trivial)
        | (clear tok4; refine sp_run (v := .agg (u8s (id ++ seed)).toArray) rfl (fun w' hw' _ => rn_cells rfl rfl rfl rfl hsz48.out (hc48.out w' (BW.out.own0.trans hw'))) ?_; go_frame; have tok5 : True := trivial)
        | (clear tok5; refine sp_callN (v := .agg (u8s Si).toArray) (args := #[.agg (u8s (id ++ seed)).toArray, .int .i64 q, .int .i64 i]) rfl rfl (by simp [Act.eval]) Try.func65 (by kernel_rfl) (by kernel_rfl) (fun w' _ _ => hs1.out w') ?_; go_frame; have tok6 : True := trivial)
        | (clear tok6; refine sp_callN (v := .agg (u8s Xi).toArray) (args := #[.agg (u8s id).toArray, .int .i64 q, .int .i64 i, .int .i64 0, .int .i64 t, .agg (u8s Si).toArray]) rfl rfl (by simp [Act.eval]) Try.func75 (by kernel_rfl) (by kernel_rfl) (fun w' _ _ => ha1.out w') ?_; go_frame; have tok7 : True := trivial)
        | (clear tok7; refine sp_rel NewC.mono rfl (fun w' hw' _ => newC_alloc rfl info_hash hw'.size) ?_; intro v9; go_frame)
        | (refine sp_val (fun w' hw' hF => ?_) ⟨_, rfl, Nat.le_of_ble_eq_true rfl⟩ ?_
           · go_big_quiet_step (fail)
             first
               | exact rfl
               | (simp only [hsh]; exact rfl)
               | (simp only [Int.add_sub_cancel]; exact rfl)
           try go_frame))
      refine sp_nil ?_
      intro w5 hw' hF
      obtain ⟨g, rfl, hg, hgc⟩ := hF.2 _ rfl trivial
      have B := BW.out.adopt hw' hg hgc
      have hgn := Lib.hid (Nat.le_trans BW.out.own0.size hg)
      clear hw' hF hg hgc hs1 ha1 BW
      simp only [List.drop_succ_cons, List.drop_zero]
      have hsum : Hid ((flatX X i).length + Xi.length = 32 * (i + 1)) := by show _ = _; rw [hfl.out, hxl.out]; omega
      go_wp2_with (first
        | (refine st_bufPut (vs := u8s Xi) rfl B rfl rfl rfl (by rw [length_ints, hxl.out]; exact size_hash) (by rw [length_ints, length_ints, hxl.out]; rfl) (oneCell_ints _ _) ?_; clear B; intro w6 B)
        | (refine st_val rfl (rn_sliceAll rfl rfl size_u8 rfl (by omega)) ?_)
        | (refine st_app (ys := Xi) rfl B elem_u8 rfl rfl rfl rfl (by have h := Own.litM (T := 28) B.own0 (.head _) hxl.out.symm; exact h) (by rw [hsum.out]; omega) (by rw [hsum.out]; omega) ?_; clear B; intro p7 c7 w7 B; rw [← hst.out] at B; rw [hsum.out] at B ⊢; have B2 := B.pop hgn.out; clear B; have B := B2; clear B2))
      exact ⟨⟨i + 1, _, _, by omega, by go_num, rfl, B⟩, by simp [intOf]; omega⟩
    · obtain rfl : i = C := by omega
      have hO : Hid (∀ w', Own wr w' [] → Old w' (.slice p (32 * i) c) (flatX X i)) := fun w' h => ⟨SlAt.own0 B.bytesAt h, fun k hk => Nat.lt_of_lt_of_le (B.lt k hk) h.size⟩
      have hfl := Lib.hid (length_flatX hXl.out i)
      have hfb := Lib.hid (isBytes_flatX hXb.out i)
      have HR := Lib.hid B.own0
      clear B
      have H := Own.refl wr
      go_wp2_with (first
        | (go_at_call 74; refine (hch.out _).mono ?_; rintro e w4 ⟨rfl, h3⟩; have H2 := H.call0 h3; clear H h3; have H := H2; clear H2)
        | (refine st_val rfl (rn_cells rfl rfl rfl rfl hsz.out (hc16.out _ (HR.out.trans H))) ?_)
        | (go_at_call 76; refine (hends.out _ _ _ (hO.out _ H) hfb.out (by rw [hfl.out]; omega)).mono ?_; rintro e w4 ⟨rfl, h3⟩; rw [← hres.out]; have H2 := H3.out.call0 (HR.out.trans (H.trans h3)); clear H h3; have H := H2; clear H2)
        | (refine st_skip rfl (rn_storeAll (vs := u8s R) H rfl rfl rfl (size_hashL hRl.out) .head (by rw [length_ints, length_ints, hRl.out]; rfl) (oneCell_ints _ _)) ?_; clear H; intro w8 H))
      refine fin_cell rfl H rfl (.head _) rfl rfl (size_hashL hRl.out) rfl ⟨rfl, ?_⟩
      exact H.end0 (by simp; omega)

end Go.Proofs.Ytfihlmnbonnekaa
