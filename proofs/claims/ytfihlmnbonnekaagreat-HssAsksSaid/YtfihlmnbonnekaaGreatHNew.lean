/- hss: Child, Many, New; the document's Child. -/
import Derived.Test.YtfihlmnbonnekaaGreatHChd
namespace Go.Proofs.YtfihlmnbonnekaaGreat
open Go.RowKit
set_option maxHeartbeats 32000000
theorem rn_arrTo5 {P : Program} {o : Oper} {a : Act} {w : World} {t : TypeId} {x hi : Operand} (ho : o.op = .slice t x none (some hi) none) {n e : Nat} (hu : P.underlying t = some (.array n e)) (hs : (P.info? e).map (·.size) = some 1) {b i h : Nat} (hx : a.eval x = .pointer (some ⟨b, i, none⟩)) {k : IntKind} {z : Int} (hz : a.eval hi = .int k z) (hzh : z = (h : Int)) (h2 : h ≤ n) (hn : 0 < n) :
 (execOp a.eval o).run P w = .ok (.value (.slice (some ⟨b, i, none⟩) h n)) w := by
 have h1 := rn_sliceArr (w := w) (l := 0) (h := h) ho hu hs hx (by exact .no _) (by rw [Option.map_some, hz]; exact .yes hzh) (Nat.zero_le _) h2
 rw [if_neg (by omega)] at h1
 simpa using h1
theorem take_get5 {x : List Int} {n j : Nat} {v : Value} (h : (u8s (x.take n))[j]? = some v) : (u8s x)[j]? = some v := by
 have h : ((x.take n).map (Value.int .u8))[j]? = some v := h
 show (x.map (Value.int .u8))[j]? = some v
 rw [List.map_take, List.getElem?_take] at h
 split at h
 · exact h
 · cases h
def cidOf (id sd : List Int) (q : Nat) : List Int := (secretOf id sd q 65535).take 16
def csdOf (id sd : List Int) (q : Nat) : List Int := secretOf id sd q 65534
theorem length_cidOf (id sd : List Int) (q : Nat) : (cidOf id sd q).length = 16 := by unfold cidOf secretOf; rw [List.length_take, length_sha]; rfl
theorem length_csdOf (id sd : List Int) (q : Nat) : (csdOf id sd q).length = 32 := length_sha _
theorem isBytes_cidOf (id sd : List Int) (q : Nat) : IsBytes (cidOf id sd q) := isBytes_take (isBytes_sha _) _
theorem isBytes_csdOf (id sd : List Int) (q : Nat) : IsBytes (csdOf id sd q) := isBytes_sha _
theorem sec_fill {x y : List Int} (hx : x.length = 16) (hy : y.length = 32) : fillL [(0, 16), (16, 32)] (u8s (List.replicate 48 0)) [(0, u8s x), (1, u8s y)] = some (u8s (x ++ y)) := by
 refine fillL_cons (off := 0) (cs' := u8s (x ++ List.replicate 32 0)) (by rw [length_ints, hx]; rfl) (by rw [length_ints, length_ints, hx]; simp) ?_ (fillL_cons (off := 16) (cs' := u8s (x ++ y)) (by rw [length_ints, hy]; rfl) (by rw [length_ints, length_ints, List.length_append, hx, hy]; simp) ?_ rfl)
 · unfold splice
   rw [length_ints, hx]
   simp [ints]
 · unfold splice
   rw [length_ints, hy, u8s_app, u8s_app, List.take_left' (by rw [length_ints, hx]), List.drop_eq_nil_of_le (by simp [hx]), List.append_nil]
set_option maxRecDepth 100000 in
theorem child_any (w : World) (id sd : List Int) (h16 : id.length = 16) (h32 : sd.length = 32) (x : Int) (q : Nat) (hq : q < 4294967296) (hx : IntKind.u32.wrap x = (q : Int)) :
 Calls Tryz.prog 85 #[.agg (u8s (id ++ sd)).toArray, .int .i64 x] w fun e w' => e = .returned (.agg (u8s (cidOf id sd q ++ csdOf id sd q)).toArray) ∧ Own w w' [] := by
 have H := Own.refl w
 have hsz48 := Hh (size_secretL h16 h32)
 have hd1 : Hid (∀ w', Calls Tryz.prog 72 #[.agg (u8s (id ++ sd)).toArray, .int .i64 q, .int .i64 65535] w' fun e w'' => e = .returned (.agg (u8s (secretOf id sd q 65535)).toArray) ∧ Own w' w'' []) := fun w' => deriveU_any w' id sd h16 h32 q 65535 hq (by omega)
 have hd2 : Hid (∀ w', Calls Tryz.prog 72 #[.agg (u8s (id ++ sd)).toArray, .int .i64 q, .int .i64 65534] w' fun e w'' => e = .returned (.agg (u8s (csdOf id sd q)).toArray) ∧ Own w' w'' []) := fun w' => deriveU_any w' id sd h16 h32 q 65534 hq (by omega)
 have hl1 : Hid ((secretOf id sd q 65535).length = 32) := length_sha _
 have hl2 := Hh (length_csdOf id sd q)
 have hl3 := Hh (length_cidOf id sd q)
 have hcd : cidOf id sd q = (secretOf id sd q 65535).take 16 := rfl
 obtain ⟨X, hX⟩ : ∃ X, X = secretOf id sd q 65535 := ⟨_, rfl⟩
 obtain ⟨D, hD⟩ : ∃ D, D = csdOf id sd q := ⟨_, rfl⟩
 rw [← hX] at hd1 hl1 hcd
 rw [hcd] at hl3 ⊢
 rw [← hD] at hd2 hl2 ⊢
 have hfl := Hh (sec_fill hl3.out hl2.out)
 have hl48 : Hid ((X.take 16 ++ D).length = 48) := by show _ = _; rw [List.length_append, hl3.out, hl2.out]
 have hb32 : ((q : Nat) : Int) < 4294967296 := by omega
 clear h16 h32 hX hD hcd hq
 go_enter Tryz.func85, Tryz.ntmps85
 have z1 := tt
 go_wp2_with (first
  | (clear z1; refine st_new rfl (rn_box (cs := u8s (id ++ sd)) H rfl rfl rfl) ?_; clear H; intro b2 w1 hb2 H; have z2 := tt)
  | (clear z2; refine st_new rfl (rn_alloc (cs := u8s (List.replicate 48 0)) H rfl (by kernel_rfl)) ?_; clear H; intro b4 w2 hb4 H; have z3 := tt)
  | (clear z3; refine st_val rfl (rn_loadAll (cs := u8s (id ++ sd)) H rfl rfl (.tail _ (.head _)) rfl rfl hsz48.out) ?_; have z4 := tt)
  | (clear z4; go_at_call 72; refine (hd1.out _).mono ?_; rintro e w3 ⟨rfl, h3⟩; replace H := H.call0 h3; clear h3; have z5 := tt)
  | (clear z5; refine st_new rfl (rn_alloc H rfl info_hash) ?_; clear H; intro b5 w4 hb5 H; have z6 := tt)
  | (clear z6; refine st_skip rfl (rn_storeAll (vs := u8s X) H rfl rfl rfl (size_hashL hl1.out) .head (by rw [length_ints, length_ints, hl1.out]; rfl) (oneCell_ints _ _)) ?_; clear H; intro w5 H; have z7 := tt))
 have HH := Hh H
 clear H
 have k5 : Hid (∀ w', Own w5 w' [] → ∀ j v, (u8s (X.take 16))[j]? = some v → w'.cell? ⟨b5, 0 + j, none⟩ = some v) := fun w' h j v hj => by rw [(HH.out.call0 h).cell (.head _), Nat.zero_add]; exact take_get5 hj
 have k2 : Hid (∀ w', Own w5 w' [] → ∀ j v, (u8s (id ++ sd))[j]? = some v → w'.cell? ⟨b2, 0 + j, none⟩ = some v) := fun w' h j v hj => by rw [(HH.out.call0 h).cell (.tail _ (.tail _ (.head _))), Nat.zero_add]; exact hj
 refine region_grow 7 (by kernel_rfl) (by kernel_rfl) (by kernel_rfl) [.val (.slice (some ⟨b5, 0, none⟩) 16 32), .val (.pointer (some ⟨b5, 0, none⟩)), .val (.agg (u8s (X.take 16)).toArray), .val (.agg (u8s (id ++ sd)).toArray), .val (.int .i64 q), .val (.agg (u8s D).toArray), .val (.agg (u8s (X.take 16 ++ D)).toArray)] rfl ?_
 have z3 := tt
 try go_frame
 repeat (first
  | (clear z3; refine sp_run (v := .slice (some ⟨b5, 0, none⟩) 16 32) rfl (fun w' hw' _ => rn_arrTo5 (h := 16) rfl rfl size_u8 rfl rfl rfl (by omega) (by omega)) ?_; try go_frame; have z4 := tt)
  | (clear z4; refine sp_run (v := .pointer (some ⟨b5, 0, none⟩)) rfl (fun w' hw' _ => rn_arrAt rfl rfl rfl (by omega)) ?_; try go_frame; have z5 := tt)
  | (clear z5; refine sp_run (v := .agg (u8s (X.take 16)).toArray) rfl (fun w' hw' _ => rn_cells rfl rfl rfl rfl (size_idL hl3.out) (k5.out w' hw')) ?_; try go_frame; have z6 := tt)
  | (clear z6; refine sp_run (v := .agg (u8s (id ++ sd)).toArray) rfl (fun w' hw' _ => rn_cells rfl rfl rfl rfl hsz48.out (k2.out w' hw')) ?_; try go_frame; have z7 := tt)
  | (clear z7; refine sp_callN (v := .agg (u8s D).toArray) (args := #[.agg (u8s (id ++ sd)).toArray, .int .i64 q, .int .i64 65534]) rfl rfl (by simp [Act.eval]) Tryz.func72 (by kernel_rfl) (by kernel_rfl) (fun w' hw' _ => hd2.out w') ?_; try go_frame; have z8 := tt)
  | (clear z8; refine sp_run (v := .agg (u8s (X.take 16 ++ D)).toArray) rfl (fun w' hw' _ => rn_buildS rfl rfl (zs := u8s (List.replicate 48 0)) (by kernel_rfl) (by kernel_rfl) hfl.out) ?_; try go_frame; have z9 := tt)
  | (refine sp_val (fun w' hw' hF => ?_) ⟨_, rfl, nB rfl⟩ ?_
     · go_big_quiet_step (fail)
       exact rfl
     try go_frame))
 refine sp_nil ?_
 intro w6 hw' hF
 have H := HH.out.call0 hw'
 clear hw' hF k2 k5
 simp only [List.drop_succ_cons, List.drop_zero]
 have z1 := tt
 go_wp2_with (first
  | (clear z1; refine st_skip rfl (rn_storeAll (vs := u8s (X.take 16 ++ D)) H rfl rfl rfl (by rw [length_ints, hl48.out]; exact size_secret) (.tail .head) (by rw [length_ints, length_ints, hl48.out]; rfl) (oneCell_ints _ _)) ?_; clear H; intro w7 H; have z2 := tt))
 refine fin_cell (cs := u8s (X.take 16 ++ D)) rfl H rfl (.tail _ (.head _)) rfl rfl (by rw [length_ints, hl48.out]; exact size_secret) rfl ⟨rfl, H.end0 (by simp; omega)⟩
theorem many_1 (w : World) : Calls Tryz.prog 25 #[.int .i64 1] w fun e w' => e = .returned (.int .i64 32) ∧ Own w w' [] := by
 go_enter Tryz.func25, Tryz.ntmps25
 go_wp2
 go_ret
 exact ⟨rfl, Own.refl w⟩
theorem many_2 (w : World) : Calls Tryz.prog 25 #[.int .i64 2] w fun e w' => e = .returned (.int .i64 1024) ∧ Own w w' [] := by
 go_enter Tryz.func25, Tryz.ntmps25
 go_wp2
 go_ret
 exact ⟨rfl, Own.refl w⟩
theorem many_0 (w : World) (x : Int) (h1 : x ≠ 1) (h2 : x ≠ 2) : Calls Tryz.prog 25 #[.int .i64 x] w fun e w' => e = .returned (.int .i64 0) ∧ Own w w' [] := by
 have e1 : (x == 1) = false := by simpa using h1
 have e2 : (x == 2) = false := by simpa using h2
 go_enter Tryz.func25, Tryz.ntmps25
 go_wp2
 go_ret
 exact ⟨rfl, Own.refl w⟩
end Go.Proofs.YtfihlmnbonnekaaGreat
