/- lms: Public, Node, Sign. And what stands on it. No condition. -/
import Derived.Test.YtfihlmnbonnekaaGreatLGrow
import Derived.Test.YtfihlmnbonnekaaGreatPrgB

/-! lms: Public, Node, Sign. -/
namespace Go.Proofs.YtfihlmnbonnekaaGreat
open Go.RowKit
set_option maxHeartbeats 32000000
def BufR (B : Nat) (xs : List Int) : World → Value → Prop := fun w v => ∃ wb : World, B ≤ wb.heap.size ∧ Buf 5 .u8 wb w [] v xs
theorem BufR.mono (B : Nat) (xs : List Int) : Mono (BufR B xs) := fun _ _ _ h ⟨wb, h1, h2⟩ => ⟨wb, h1, h2.call0 h⟩
theorem BufR.use {B : Nat} {xs : List Int} {w0 w : World} {v : Value} {L : List Ent} (h : BufR B xs w v) (H : Own w0 w L) (hB : w0.heap.size ≤ B) (hL : ∀ k ∈ L.map (·.1), k < B) : Buf 5 .u8 w0 w L v xs := by
 obtain ⟨wb, h1, Lv, h2, h3, h4⟩ := h
 rw [List.append_nil] at h3
 refine ⟨Lv, h2, ⟨H.os, H.tape, H.output, H.size, fun k hk hn => H.keep k hk (fun hm => hn (by rw [List.map_append]; exact List.mem_append_right _ hm)), ?_, fun b cs T hm => ?_⟩, fun j hj => by have := h4 j hj; omega⟩
 · rw [List.map_append, List.nodup_append]
   refine ⟨h3.nodup, H.nodup, ?_⟩
   rintro a ha b hb rfl
   have := h4 a ha
   have := hL a hb
   omega
 · rcases List.mem_append.1 hm with hm | hm
   · exact h3.here b cs T hm
   · exact H.here b cs T hm
theorem BufR.new {B : Nat} {xs : List Int} {w : World} {v : Value} (h : BufR B xs w v) : NewS B v := by
 obtain ⟨wb, h1, h2⟩ := h
 exact fun j hj => Nat.le_trans h1 (h2.new j hj)
theorem BufR.old {B : Nat} {xs : List Int} {w : World} {v : Value} (h : BufR B xs w v) : Old w v xs := by
 obtain ⟨wb, h1, h2⟩ := h
 exact ⟨h2.bytesAt, h2.lt⟩
theorem signP_any (w : World) (id seed : List Int) (h16 : id.length = 16) (h32 : seed.length = 32) (q k : Nat) (hq : q < 32) (hk : k = 1 ∨ k = 2 ∨ k = 4 ∨ k = 8) (mv : Value) (msg : List Int) (hm : Old w mv msg) (hmb : IsBytes msg) (hml : msg.length ≤ 90000) {n : Nat} (hn : n = 36 + 32 * chN k) :
 Calls Tryz.prog 44 #[.agg (u8s (id ++ seed)).toArray, .int .i64 q, .int .i64 k, mv] w fun e w' => ∃ p c, e = .returned (.tuple #[.slice p n c, .int .i64 0]) ∧ Old w' (.slice p n c) (sigOf id seed q k msg) ∧ Own w w' [] :=
 (sign_any w id seed h16 h32 q k hq hk mv msg hm hmb hml).mono fun e w' ⟨r, h1, h2, h3⟩ => by
   have h4 := h2.1
   obtain ⟨p, c, rfl⟩ := h4
   rw [length_sigOf, ← hn] at h1 h2
   exact ⟨p, c, h1, ⟨h2.2.1, h2.2.2⟩, h3⟩
def TreeAt (w : World) (b : Nat) (id seed : List Int) (k : Nat) : Prop := w.heap[b]? = some (.cells (fullT id seed k).toArray 74 (0, 0))
section
variable {w w' : World} {b : Nat} {id seed : List Int} {k : Nat} {L : List Ent}
theorem TreeAt.mv (h : TreeAt w b id seed k) (ho : Own w w' L) (hn : ∀ k ∈ L.map (·.1), w.heap.size ≤ k) : TreeAt w' b id seed k := by
 have hb : b < w.heap.size := (Array.getElem?_eq_some_iff.1 h).1
 unfold TreeAt
 rw [ho.keep b hb (fun hm => by have := hn b hm; omega)]
 exact h
theorem TreeAt.own (h : TreeAt w b id seed k) : Own w w [(b, fullT id seed k, 74)] := Own.one h
theorem TreeAt.of (h : Own w w' [(b, fullT id seed k, 74)]) : TreeAt w' b id seed k := h.here _ _ _ (.head _)
theorem TreeAt.kc (h : TreeAt w b id seed k) (h16 : id.length = 16) (h32 : seed.length = 32) : w.cell? ⟨b, 48, none⟩ = some (.int .i64 k) := (h.own.cell (.head _) 48).trans (tg_k (by rw [List.length_append]; omega))
theorem TreeAt.sc (h : TreeAt w b id seed k) : ∀ j v, (u8s (id ++ seed))[j]? = some v → w.cell? ⟨b, 0 + j, none⟩ = some v := fun j v hj => by rw [h.own.cell (.head _), Nat.zero_add]; exact tg_s hj
theorem TreeAt.ids (h : TreeAt w b id seed k) (h16 : id.length = 16) : BIn id w (.slice (some ⟨b, 0, none⟩) 16 16) := h.own.binAt (.head _) (fun j v hj => by rw [Nat.zero_add]; exact tg_s (by rw [u8s_app, List.getElem?_append_left (List.getElem?_eq_some_iff.1 hj).1]; exact hj)) h16.symm (by omega)
theorem TreeAt.nc (h : TreeAt w b id seed k) (h16 : id.length = 16) (h32 : seed.length = 32) {r : Nat} (h0 : 0 < r) (h64 : r < 64) : ∀ j v, (u8s (nodeOf id seed k r))[j]? = some v → w.cell? ⟨b, 52 + 32 * r + j, none⟩ = some v := fun j v hj => by
 rw [h.own.cell (.head _), Nat.add_assoc]
 exact tg_n (by rw [List.length_append]; omega) (tbl_at (length_nodeOf id seed k) h0 h64 hj)
theorem TreeAt.node (h : TreeAt w b id seed k) (h16 : id.length = 16) (h32 : seed.length = 32) {r : Nat} (h0 : 0 < r) (h64 : r < 64) : BIn (nodeOf id seed k r) w (.slice (some ⟨b, 52 + 32 * r, none⟩) 32 32) :=
 h.own.binAt (.head _) (fun j v hj => by rw [← h.own.cell (.head _)]; exact h.nc h16 h32 h0 h64 j v hj) (length_nodeOf id seed k r).symm (by omega)
end
def pubL (id seed : List Int) (k : Nat) : List Int := numB 5 4 ++ numB (cdN k) 4 ++ id ++ nodeOf id seed k 1
theorem length_pubL {id : List Int} (h16 : id.length = 16) (seed : List Int) (k : Nat) : (pubL id seed k).length = 56 := by
 unfold pubL
 rw [List.length_append, List.length_append, List.length_append, length_numB, length_numB, h16, length_nodeOf]
theorem isBytes_pubL {id : List Int} (hid : IsBytes id) (seed : List Int) (k : Nat) : IsBytes (pubL id seed k) := isBytes_app (isBytes_app (isBytes_app (isBytes_numB _ _) (isBytes_numB _ _)) hid) (isBytes_nodeOf id seed k 1)
set_option maxRecDepth 100000 in
theorem lpubB_any (w : World) (b : Nat) (id seed : List Int) (h16 : id.length = 16) (h32 : seed.length = 32) (k : Nat) (hk : k = 1 ∨ k = 2 ∨ k = 4 ∨ k = 8) (cs : List Value) (hcs : IsTree id seed k cs) (H0 : Own w w [(b, cs, 74)]) :
 Calls Tryz.prog 12 #[.pointer (some ⟨b, 0, none⟩)] w fun e w' => ∃ p c, e = .returned (.slice p 56 c) ∧ BufR w.heap.size (pubL id seed k) w' (.slice p 56 c) ∧ Own w w' [(b, fullT id seed k, 74)] := by
 have hgr := Hh (grow_any w b id seed h16 h32 k hk cs hcs H0)
 have hcd := Hh (fun w' => code_k w' k hk)
 have tk := Hh (fun w (h : TreeAt w b id seed k) => h.kc h16 h32)
 have ti := Hh (fun w (h : TreeAt w b id seed k) => h.ids h16)
 have tn : Hid (∀ w, TreeAt w b id seed k → BIn (nodeOf id seed k 1) w (.slice (some ⟨b, 84, none⟩) 32 32)) := fun w h => h.node h16 h32 (r := 1) (by omega) (by omega)
 have hcdl : Hid (∃ c, c = cdN k) := ⟨_, rfl⟩
 obtain ⟨cd, hcd1⟩ := hcdl.out
 rw [← hcd1] at hcd
 have hcd2 : 1 ≤ cd ∧ cd ≤ 4 := by rw [hcd1]; rcases hk with rfl | rfl | rfl | rfl <;> decide
 obtain ⟨hcd3, hcd4⟩ := hcd2
 have hfin : Hid ([] ++ numB 5 4 ++ numB cd 4 ++ id ++ nodeOf id seed k 1 = pubL id seed k) := by show _ = _; rw [hcd1]; rfl
 have hl1 : Hid (([] ++ numB 5 4 : List Int).length = 4) := by show _ = _; rw [List.nil_append, length_numB]
 have hl2 : Hid (([] ++ numB 5 4 ++ numB cd 4 : List Int).length = 8) := by show _ = _; rw [List.length_append, hl1.out, length_numB]
 have hl3 : Hid (([] ++ numB 5 4 ++ numB cd 4 ++ id : List Int).length = 24) := by show _ = _; rw [List.length_append, hl2.out, h16]
 have h16' := Hh h16
 have hnl := Hh (length_nodeOf id seed k 1)
 have hpl := Hh (length_pubL h16 seed k)
 obtain ⟨N1, hN1⟩ : ∃ N, N = nodeOf id seed k 1 := ⟨_, rfl⟩
 obtain ⟨PL, hPL⟩ : ∃ N, N = pubL id seed k := ⟨_, rfl⟩
 rw [← hN1] at tn hfin hnl
 rw [← hPL] at hfin hpl ⊢
 clear h16 h32 hk hcs H0 hcd1 hN1 hPL
 go_enter Tryz.func12, Tryz.ntmps12
 have z1 := tt
 go_wp2_with (first
  | (clear z1; go_at_call 36; refine hgr.out.mono ?_; rintro e w1 ⟨rfl, H1⟩; have T1 := TreeAt.of H1; have HW := Hh H1; have hb1 := H1.lt (.head _); clear H1 hgr; have H := Own.refl w1; have z2 := tt)
  | (clear z2; refine st_new rfl (rn_alloc H rfl info_writer) ?_; clear H; intro b3 w2 hb3 H; have B : Buf 5 .u8 w1 w2 ((b3, [.slice none 0 0], 79) :: []) (.slice none 0 0) [] := Buf.nil H; clear H; have z3 := tt)
  | (clear z3; go_at_call 37; refine (num_any _ _ _ _ _ _ B 5 4 (by omega) (by omega) (by simp)).mono ?_; rintro e w3 ⟨rfl, v3, B2⟩; clear B; have B := B2; clear B2; have z4 := tt)
  | (clear z4; refine st_val rfl (rn_cell rfl rfl rfl rfl (tk.out _ (T1.mv B.own0 (by simpa using hb3)))) ?_; have z5 := tt)
  | (clear z5; go_at_call 38; refine (hcd.out _).mono ?_; rintro e w4 ⟨rfl, h3⟩; replace B := B.call0 h3; clear h3; have z6 := tt)
  | (clear z6; go_at_call 37; refine (num_any _ _ _ _ _ _ B cd 4 (by omega) (by omega) (by rw [hl1.out]; omega)).mono ?_; rintro e w5 ⟨rfl, v5, B2⟩; clear B; have B := B2; clear B2; have z7 := tt)
  | (refine st_val rfl (rn_sliceAll rfl rfl size_u8 rfl (by omega)) ?_)
  | (clear z7; go_at_call 39; refine (raw_any _ _ _ _ _ _ B _ id (ti.out _ (T1.mv B.own0 (by simpa using hb3))).2.1 (by rw [hl2.out, h16'.out]; omega)).mono ?_; rintro e w6 ⟨rfl, v6, B2⟩; clear B; have B := B2; clear B2; have z8 := tt)
  | (clear z8; refine st_val rfl (rn_idxArrN (j := 1) rfl rfl size_hash rfl rfl rfl (by omega) rfl) ?_; have z9 := tt)
  | (clear z9; go_at_call 39; refine (raw_any _ _ _ _ _ _ B _ _ (tn.out _ (T1.mv B.own0 (by simpa using hb3))).2.1 (by rw [hl3.out, hnl.out]; omega)).mono ?_; rintro e w7 ⟨rfl, v7, B2⟩; rw [hfin.out] at B2; clear B; have B := B2; clear B2; have z10 := tt)
  | (clear z10; go_at_call 40; refine (bytesB_any _ b3 v7 _ (B.own0.sub1 (.head _)) B.bytesAt B.lt (by rw [hpl.out]; omega)).mono ?_; rintro e w8 ⟨r, rfl, hr⟩; have R8 := Hh hr; have g8 := Nat.le_trans HW.out.size B.own0.size; have H := B.own0.call0 hr.own0; clear B hr))
 have hs := R8.out.slice
 obtain ⟨pr, cr, e8⟩ := hs
 subst e8
 rw [hpl.out] at R8 ⊢
 have h1 := Hh (H.end0 (by simpa using hb3))
 clear H
 go_ret
 exact ⟨_, _, rfl, ⟨w7, g8, R8.out⟩, HW.out.call0 h1.out⟩
def sibN (r : Nat) : Nat := if r % 2 = 0 then r + 1 else r - 1
def pathOf (id seed : List Int) (k q i : Nat) : List Int := nodeOf id seed k (sibN ((q + 32) / 2 ^ i))
def lsigOf (id seed : List Int) (k q : Nat) (msg : List Int) : List Int := numB q 4 ++ sigOf id seed q k msg ++ numB 5 4 ++ flatX (pathOf id seed k q) 5
set_option maxRecDepth 100000 in
theorem xor_one : ∀ r : Nat, r < 64 → bits .xor .i64 (r : Int) 1 = ((sibN r : Nat) : Int) := by decide
theorem sibN_lt {r : Nat} (h : 2 ≤ r) (h64 : r < 64) : 0 < sibN r ∧ sibN r < 64 := by unfold sibN; split <;> omega
theorem path_r {q i : Nat} (hq : q < 32) (hi : i < 5) : 2 ≤ (q + 32) / 2 ^ i ∧ (q + 32) / 2 ^ i < 64 ∧ (q + 32) / 2 ^ i / 2 = (q + 32) / 2 ^ (i + 1) := by
 match i, hi with
 | 0, _ => refine ⟨by omega, by omega, by omega⟩
 | 1, _ => refine ⟨by omega, by omega, by omega⟩
 | 2, _ => refine ⟨by omega, by omega, by omega⟩
 | 3, _ => refine ⟨by omega, by omega, by omega⟩
 | 4, _ => refine ⟨by omega, by omega, by omega⟩
theorem path_end {q : Nat} (hq : q < 32) : (q + 32) / 2 ^ 5 = 1 := by omega
theorem length_pathOf (id seed : List Int) (k q i : Nat) : (pathOf id seed k q i).length = 32 := length_nodeOf ..
theorem isBytes_pathOf (id seed : List Int) (k q i : Nat) : IsBytes (pathOf id seed k q i) := isBytes_nodeOf _ _ _ _
theorem length_lsigOf (id seed : List Int) (k q : Nat) (msg : List Int) : (lsigOf id seed k q msg).length = sizeOfL k := by
 unfold lsigOf sizeOfL
 rw [List.length_append, List.length_append, List.length_append, length_numB, length_numB, length_sigOf, length_flatX (length_pathOf id seed k q)]
 omega
theorem isBytes_lsigOf (id seed : List Int) (k q : Nat) (msg : List Int) : IsBytes (lsigOf id seed k q msg) :=
 isBytes_app (isBytes_app (isBytes_app (isBytes_numB _ _) (isBytes_sigOf _ _ _ _ _)) (isBytes_numB _ _)) (isBytes_flatX (isBytes_pathOf id seed k q) 5)
def TupB (n : Nat) (xs : List Int) : World → Value → Prop := fun w v => ∃ p c, v = .tuple #[.slice p n c, .int .i64 0] ∧ Old w (.slice p n c) xs
theorem TupB.mono (n : Nat) (xs : List Int) : Mono (TupB n xs) := fun _ _ _ h ⟨p, c, h1, h2⟩ => ⟨p, c, h1, h2.mv h (by simp)⟩
def SlB (n : Nat) (xs : List Int) : World → Value → Prop := fun w v => ∃ p c, v = .slice p n c ∧ Old w (.slice p n c) xs
theorem SlB.mono (n : Nat) (xs : List Int) : Mono (SlB n xs) := fun _ _ _ h ⟨p, c, h1, h2⟩ => ⟨p, c, h1, h2.mv h (by simp)⟩
set_option maxRecDepth 100000 in
theorem lsignB_any (w : World) (b : Nat) (id seed : List Int) (h16 : id.length = 16) (h32 : seed.length = 32) (k : Nat) (hk : k = 1 ∨ k = 2 ∨ k = 4 ∨ k = 8) (cs : List Value) (hcs : IsTree id seed k cs) (q : Nat) (hq : q < 32) (mv : Value) (msg : List Int) (hm : Old w mv msg) (hmb : IsBytes msg) (hml : msg.length ≤ 90000)
 (H0 : Own w w [(b, cs, 74)]) (hmne : ∀ k, blk mv = some k → k ≠ b) {n : Nat} (hn : n = sizeOfL k) :
 Calls Tryz.prog 15 #[.pointer (some ⟨b, 0, none⟩), .int .i64 q, mv] w fun e w' => ∃ p c, e = .returned (.tuple #[.slice p n c, .int .i64 0]) ∧ BufR w.heap.size (lsigOf id seed k q msg) w' (.slice p n c) ∧ Own w w' [(b, fullT id seed k, 74)] := by
 have hgr := Hh (grow_any w b id seed h16 h32 k hk cs hcs H0)
 have hmo : Hid (∀ w1, Own w w1 [(b, fullT id seed k, 74)] → Old w1 mv msg) := fun w1 h => ⟨SlAt.own hm.1 h (fun k hk => by simpa using hmne k hk), fun k hk => Nat.lt_of_lt_of_le (hm.2 k hk) h.size⟩
 have tk := Hh (fun w (h : TreeAt w b id seed k) => h.kc h16 h32)
 have ts := Hh (fun w (h : TreeAt w b id seed k) => h.sc)
 have hC := chN_le k
 obtain ⟨sn, hsn⟩ : ∃ n, n = 36 + 32 * chN k := ⟨_, rfl⟩
 have hsn9 : sn ≤ 9000 := by omega
 have hsg : Hid (∀ w1, Old w1 mv msg → Calls Tryz.prog 44 #[.agg (u8s (id ++ seed)).toArray, .int .i64 q, .int .i64 k, mv] w1 fun e w2 => ∃ r, e = .returned r ∧ TupB sn (sigOf id seed q k msg) w2 r ∧ Own w1 w2 []) := fun w1 h => (signP_any w1 id seed h16 h32 q k hq hk mv msg h hmb hml hsn).mono fun e w2 ⟨p, c, h1, h2, h3⟩ => ⟨_, h1, ⟨p, c, rfl, h2⟩, h3⟩
 have hsl : Hid ((sigOf id seed q k msg).length = sn) := by show _ = _; rw [length_sigOf, hsn]
 have hfin : Hid ([] ++ numB q 4 ++ sigOf id seed q k msg ++ numB 5 4 ++ flatX (pathOf id seed k q) 5 = lsigOf id seed k q msg) := rfl
 have hll : Hid ((lsigOf id seed k q msg).length = n) := by show _ = _; rw [length_lsigOf, hn]
 have hn9 : n ≤ 9000 := by rw [hn]; unfold sizeOfL; omega
 have hpl := Hh (length_pathOf id seed k q)
 have tp : Hid (∀ w, TreeAt w b id seed k → ∀ i, i < 5 → BIn (pathOf id seed k q i) w (.slice (some ⟨b, 52 + sibN ((q + 32) / 2 ^ i) * 32, none⟩) 32 32)) := fun w h i hi => by
  rw [Nat.mul_comm]
  obtain ⟨g1, g2, _⟩ := path_r hq hi
  obtain ⟨g3, g4⟩ := sibN_lt g1 g2
  exact h.node h16 h32 g3 g4
 obtain ⟨sg, hsg1⟩ : ∃ s, s = sigOf id seed q k msg := ⟨_, rfl⟩
 obtain ⟨ls, hls1⟩ : ∃ s, s = lsigOf id seed k q msg := ⟨_, rfl⟩
 obtain ⟨Y, hY⟩ : ∃ Y, Y = pathOf id seed k q := ⟨_, rfl⟩
 rw [← hsg1] at hsg hsl hfin
 rw [← hls1] at hfin hll ⊢
 rw [← hY] at hfin hpl tp
 have hsz48 := Hh (size_secretL h16 h32)
 have hl1 : Hid (([] ++ numB q 4 : List Int).length = 4) := by show _ = _; rw [List.nil_append, length_numB]
 have hl2 : Hid (([] ++ numB q 4 ++ sg : List Int).length = 4 + sn) := by show _ = _; rw [List.length_append, hl1.out, hsl.out]
 have hl3 : Hid (([] ++ numB q 4 ++ sg ++ numB 5 4 : List Int).length = 8 + sn) := by show _ = _; rw [List.length_append, hl2.out, length_numB]; omega
 have hmsh := hm.shape
 obtain ⟨pm, cm, e1⟩ := hmsh
 subst e1
 obtain ⟨ml, hmln⟩ : ∃ l, l = msg.length := ⟨_, rfl⟩
 rw [← hmln] at hmo hsg ⊢
 clear h16 h32 hk hcs H0 hm hmb hml hmne hsg1 hls1 hY hsn hn hmln hC
 go_enter Tryz.func15, Tryz.ntmps15
 go_wp2_with (go_at_call 36; refine hgr.out.mono ?_; rintro e w1 ⟨rfl, H1⟩)
 have T1 := Hh (TreeAt.of H1)
 have M1 := Hh (hmo.out _ H1)
 have HW := Hh H1
 clear H1 hgr hmo
 refine region_grow 15 (by kernel_rfl) (by kernel_rfl) (by kernel_rfl) [.val (.pointer (some ⟨b, 0, none⟩)), .val (.pointer (some ⟨b, 0, none⟩)), .val (.pointer (some ⟨b, 0, none⟩)), .val (.agg (u8s (id ++ seed)).toArray), .val (.int .i64 q), .val (.pointer (some ⟨b, 0, none⟩)), .val (.pointer (some ⟨b, 0, none⟩)), .val (.pointer (some ⟨b, 48, none⟩)), .val (.int .i64 k), .val (.slice pm ml cm), .rel (TupB sn sg), .rel (TupB sn sg), .rel (SlB sn sg), .val (.int .i64 0), .rel (SlB sn sg)] rfl ?_
 have z3 := tt
 try go_frame
 repeat (first
  | (clear z3; refine sp_run (v := .agg (u8s (id ++ seed)).toArray) rfl (fun w' hw' _ => rn_cells rfl rfl rfl rfl hsz48.out (ts.out _ (T1.out.mv hw' (by simp)))) ?_; try go_frame; have z4 := tt)
  | (clear z4; refine sp_run (v := .int .i64 k) rfl (fun w' hw' _ => rn_cell rfl rfl rfl rfl (tk.out _ (T1.out.mv hw' (by simp)))) ?_; try go_frame; have z5 := tt)
  | (clear z5; refine sp_callR (args := #[.agg (u8s (id ++ seed)).toArray, .int .i64 q, .int .i64 k, .slice pm ml cm]) (TupB.mono _ _) rfl rfl (by simp [Act.eval]) Tryz.func44 (by kernel_rfl) (by kernel_rfl) (fun w' hw' _ => hsg.out w' (M1.out.mv hw' (by simp))) ?_; intro v35; try go_frame; have z6 := tt)
  | (clear z6; refine sp_rel (TupB.mono _ _) rfl (fun w' hw' hF => yieldsTo_val' (rn_move rfl rfl) ⟨Own.refl _, hF.2 _ rfl (mE (by kernel_rfl))⟩) ?_; intro v24; try go_frame; have z7 := tt)
  | (clear z7; refine sp_rel (SlB.mono _ _) rfl (fun w' hw' hF => ?_) ?_
     · obtain ⟨p, c, e, h⟩ := hF.2 _ rfl (mE (by kernel_rfl))
       exact yieldsTo_val' (rn_extract rfl e rfl) ⟨Own.refl _, p, c, rfl, h⟩
     intro v36; try go_frame; have z8 := tt)
  | (clear z8; refine sp_run (v := .int .i64 0) rfl (fun w' hw' hF => ?_) ?_
     · obtain ⟨p, c, e, h⟩ := hF.1.2 _ rfl (mE (by kernel_rfl))
       exact rn_extract rfl e rfl
     try go_frame; have z9 := tt)
  | (clear z9; refine sp_rel (SlB.mono _ _) rfl (fun w' hw' hF => yieldsTo_val' (rn_assign rfl rfl) ⟨Own.refl _, hF.2 _ rfl (mE (by kernel_rfl))⟩) ?_; intro v8; try go_frame)
  | (refine sp_val (fun w' hw' hF => ?_) ⟨_, rfl, nB rfl⟩ ?_
     · go_big_quiet_step (fail)
       exact rfl
     try go_frame))
 refine sp_nil ?_
 intro w2 hw' hF
 obtain ⟨ps, cs2, e8, S2⟩ := hF.2 _ rfl trivial
 subst e8
 have S2' := Hh S2
 have H2 := Hh hw'
 have T2 := Hh (T1.out.mv hw' (by simp))
 clear hw' hF S2 T1 M1 hsg
 simp only [List.drop_succ_cons, List.drop_zero]
 have H := Own.refl w2
 have z3 := tt
 go_wp2_with (first
  | (clear z3; refine st_new rfl (rn_alloc H rfl info_writer) ?_; clear H; intro b10 w3 hb10 H; have B : Buf 5 .u8 w2 w3 ((b10, [.slice none 0 0], 79) :: []) (.slice none 0 0) [] := Buf.nil H; clear H; have z4 := tt)
  | (clear z4; go_at_call 37; refine (num_any _ _ _ _ _ _ B q 4 (by omega) (by omega) (by simp)).mono ?_; rintro e w4 ⟨rfl, v4, B2⟩; clear B; have B := B2; clear B2; have z5 := tt)
  | (clear z5; go_at_call 39; refine (raw_any _ _ _ _ _ _ B _ sg (S2'.out.at B.own0 (by simpa using hb10)) (by rw [hl1.out, hsl.out]; omega)).mono ?_; rintro e w5 ⟨rfl, v5, B2⟩; clear B; have B := B2; clear B2; have z6 := tt)
  | (clear z6; go_at_call 37; refine (num_any _ _ _ _ _ _ B 5 4 (by omega) (by omega) (by rw [hl2.out]; omega)).mono ?_; rintro e w6 ⟨rfl, v6, B2⟩; clear B; have B := B2; clear B2))
 obtain ⟨A, hA⟩ : ∃ A, A = ([] ++ numB q 4 ++ sg ++ numB 5 4 : List Int) := ⟨_, rfl⟩
 rw [← hA] at B hl3 hfin
 clear hA hl1 hl2
 go_loopw [11] (fun v11 wr => ∃ (i : Nat) (u : Value), i ≤ 5 ∧ v11 = .int .i64 (((q + 32) / 2 ^ i : Nat) : Int) ∧ Buf 5 .u8 w2 wr ((b10, [u], 79) :: []) u (A ++ flatX Y i)) (fun v11 _ => (intOf v11).toNat)
 case atStart => exact ⟨0, v6, by omega, by rw [Nat.pow_zero, Nat.div_one]; rfl, by rw [flatX_zero, List.append_nil]; exact B⟩
 case round =>
  clear B
  obtain ⟨i, u, hi, rfl, B⟩ := hrel
  by_cases hin : i < 5
  · obtain ⟨g1, g2, g3⟩ := path_r hq hin
    have hx := xor_one _ g2
    obtain ⟨g4, g5⟩ := sibN_lt g1 g2
    have tp1 := Hh (fun w h => tp.out w h i hin)
    have hst : Hid (A ++ flatX Y i ++ Y i = A ++ flatX Y (i + 1)) := by show _ = _; rw [flatX_succ, List.append_assoc]
    have hfl : Hid ((A ++ flatX Y i).length = 8 + sn + 32 * i) := by show _ = _; rw [List.length_append, hl3.out, length_flatX hpl.out]
    have hyl := Hh (hpl.out i)
    obtain ⟨r, hr⟩ : ∃ r, r = (q + 32) / 2 ^ i := ⟨_, rfl⟩
    rw [← hr] at g1 g2 g3 hx g4 g5 tp1 ⊢
    obtain ⟨Yi, hYi⟩ : ∃ y, y = Y i := ⟨_, rfl⟩
    rw [← hYi] at tp1 hst hyl
    have g3' := Hh g3
    clear hr hYi g3
    have z7 := tt
    go_wp2_with (first
     | (clear z7; go_at_call 39; refine (raw_any _ _ _ _ _ _ B _ Yi (tp1.out _ (T2.out.mv B.own0 (by simpa using hb10))).2.1 (by rw [hfl.out, hyl.out]; omega)).mono ?_; rintro e w7 ⟨rfl, v7, B2⟩; rw [hst.out] at B2; clear B; have B := B2; clear B2))
    refine ⟨⟨i + 1, _, by omega, ?_, B⟩, ?_⟩
    · rw [← g3'.out]; go_num
    · simp [intOf]; omega
  · obtain rfl : i = 5 := by omega
    rw [hfin.out] at B
    have hend := path_end hq
    rw [hend]
    clear hend
    go_wp2_with (go_at_call 40; refine (bytesB_any _ b10 u _ (B.own0.sub1 (.head _)) B.bytesAt B.lt (by rw [hll.out]; omega)).mono ?_; rintro e w8 ⟨r, rfl, hr⟩; have R8 := Hh hr; have g8 := Nat.le_trans (Nat.le_trans HW.out.size H2.out.size) B.own0.size; have H := B.own0.call0 hr.own0; clear B hr)
    have hs := R8.out.slice
    obtain ⟨pr, cr, e8⟩ := hs
    subst e8
    rw [hll.out] at R8 ⊢
    have h1 := Hh (H.end0 (by simpa using hb10))
    clear H
    go_ret2
    exact ⟨_, _, rfl, ⟨_, g8, R8.out⟩, HW.out.call0 (H2.out.trans h1.out)⟩
theorem lsign_any (w : World) (b : Nat) (id seed : List Int) (h16 : id.length = 16) (h32 : seed.length = 32) (k : Nat) (hk : k = 1 ∨ k = 2 ∨ k = 4 ∨ k = 8) (cs : List Value) (hcs : IsTree id seed k cs) (q : Nat) (hq : q < 32) (mv : Value) (msg : List Int) (hm : Old w mv msg) (hmb : IsBytes msg) (hml : msg.length ≤ 90000)
 (H0 : Own w w [(b, cs, 74)]) (hmne : ∀ k, blk mv = some k → k ≠ b) {n : Nat} (hn : n = sizeOfL k) :
 Calls Tryz.prog 15 #[.pointer (some ⟨b, 0, none⟩), .int .i64 q, mv] w fun e w' => ∃ p c, e = .returned (.tuple #[.slice p n c, .int .i64 0]) ∧ Old w' (.slice p n c) (lsigOf id seed k q msg) ∧ NewS w.heap.size (.slice p n c) ∧ Own w w' [(b, fullT id seed k, 74)] :=
 (lsignB_any w b id seed h16 h32 k hk cs hcs q hq mv msg hm hmb hml H0 hmne hn).mono fun _ _ ⟨p, c, h1, h2, h3⟩ => ⟨p, c, h1, h2.old, h2.new, h3⟩
end Go.Proofs.YtfihlmnbonnekaaGreat

/-! lms: Width, Form. -/
namespace Go.Proofs.YtfihlmnbonnekaaGreat
open Go.RowKit
set_option maxHeartbeats 32000000
def widthV (n : Nat) (t d : Int) : Nat := if n = 56 ∧ t = 5 then (if d = 1 then 1 else if d = 2 then 2 else if d = 3 then 4 else if d = 4 then 8 else 0) else 0
def widthL (bs : List Int) : Nat := widthV bs.length (num4V bs false) (num4V (num4X bs false) (num4W bs false))
def HitW (n : Nat) (t d : Int) (j : Nat) : Prop := n = 56 ∧ t = 5 ∧ d = codeOf (wOf j)
theorem width_hit {n i : Nat} {t d : Int} (hn : n = 56) (ht : t = 5) (hi : i < 4) (hd : d = codeOf (wOf i)) : ((widthV n t d : Nat) : Int) = wOf i := by
 subst hn ht hd
 match i, hi with
 | 0, _ => rfl
 | 1, _ => rfl
 | 2, _ => rfl
 | 3, _ => rfl
theorem width_miss {n : Nat} {t d : Int} (h : ∀ j, j < 4 → ¬ HitW n t d j) : widthV n t d = 0 := by
 unfold widthV
 by_cases h1 : n = 56 ∧ t = 5
 · rw [if_pos h1]
   have h0 : d ≠ 1 := fun e => h 0 (by omega) ⟨h1.1, h1.2, e⟩
   have h2 : d ≠ 2 := fun e => h 1 (by omega) ⟨h1.1, h1.2, e⟩
   have h3 : d ≠ 3 := fun e => h 2 (by omega) ⟨h1.1, h1.2, e⟩
   have h4 : d ≠ 4 := fun e => h 3 (by omega) ⟨h1.1, h1.2, e⟩
   rw [if_neg h0, if_neg h2, if_neg h3, if_neg h4]
 · rw [if_neg h1]
theorem widthV_cases (n : Nat) (t d : Int) : widthV n t d = 0 ∨ (n = 56 ∧ t = 5 ∧ (widthV n t d = 1 ∨ widthV n t d = 2 ∨ widthV n t d = 4 ∨ widthV n t d = 8) ∧ d = cdN (widthV n t d)) := by
 unfold widthV
 by_cases h : n = 56 ∧ t = 5
 · rw [if_pos h]
   by_cases h1 : d = 1
   · subst h1; exact Or.inr ⟨h.1, h.2, by simp, rfl⟩
   by_cases h2 : d = 2
   · subst h2; exact Or.inr ⟨h.1, h.2, by simp, rfl⟩
   by_cases h3 : d = 3
   · subst h3; exact Or.inr ⟨h.1, h.2, by simp, rfl⟩
   by_cases h4 : d = 4
   · subst h4; exact Or.inr ⟨h.1, h.2, by simp, rfl⟩
   rw [if_neg h1, if_neg h2, if_neg h3, if_neg h4]
   exact Or.inl rfl
 · rw [if_neg h]
   exact Or.inl rfl
theorem RdAt.start {w w1 : World} {r c : Nat} {p : Option Addr} {bs : List Int} (h1 : BIn bs w1 (.slice p bs.length c)) (h2 : ∀ k, blk (Value.slice p bs.length c) = some k → k ≠ r ∧ w.heap.size ≤ k) : RdAt w1 r (w.heap.size ≤ ·) bs false [.slice p bs.length c, .bool false] :=
 ⟨p, c, rfl, h1.2.1, fun k hk => ⟨(h2 k hk).1, (h2 k hk).2, h1.2.2 k hk⟩⟩
theorem num4X_bytes {xs : List Int} (h : IsBytes xs) (b : Bool) : IsBytes (num4X xs b) := by unfold num4X; split; exact h; exact isBytes_drop h 4
theorem num4X_len (xs : List Int) (b : Bool) : (num4X xs b).length ≤ xs.length := by unfold num4X; split; omega; rw [List.length_drop]; omega
set_option maxRecDepth 100000 in
theorem width_any (w : World) (v : Value) (bs : List Int) (hO : Old w v bs) (hb : IsBytes bs) (hl : bs.length ≤ 1000000) :
 Calls Tryz.prog 47 #[v] w fun e w' => e = .returned (.int .i64 (widthL bs : Nat)) ∧ Own w w' [] := by
 have hnew := Hh (rnew_any w v bs hO hl)
 have hsh := hO.shape
 obtain ⟨pv, cv, e1⟩ := hsh
 subst e1
 have hb' := Hh hb
 have hl' := Hh hl
 have hx' := Hh (num4X_bytes hb false)
 have hxl : Hid ((num4X bs false).length ≤ 1000000) := Nat.le_trans (num4X_len bs false) hl
 obtain ⟨T, hT⟩ : ∃ t, t = num4V bs false := ⟨_, rfl⟩
 obtain ⟨D, hD⟩ : ∃ t, t = num4V (num4X bs false) (num4W bs false) := ⟨_, rfl⟩
 have hn1 : Hid (∀ w1 r cs, Own w w1 [(r, cs, 130)] → RdAt w1 r (w.heap.size ≤ ·) bs false cs → Calls Tryz.prog 49 #[.pointer (some ⟨r, 0, none⟩), .int .i64 4] w1 fun e w' => e = .returned (.int .u64 T) ∧ ∃ cs', RdAt w' r (w.heap.size ≤ ·) (num4X bs false) (num4W bs false) cs' ∧ Own w w' [(r, cs', 130)]) := fun w1 r cs h1 h2 => by
  rw [hT]
  exact rdNum_any w w1 r _ bs false cs [] h1 h2 hb'.out hl'.out
 have hn2 : Hid (∀ w1 r cs, Own w w1 [(r, cs, 130)] → RdAt w1 r (w.heap.size ≤ ·) (num4X bs false) (num4W bs false) cs → Calls Tryz.prog 49 #[.pointer (some ⟨r, 0, none⟩), .int .i64 4] w1 fun e w' => e = .returned (.int .u64 D) ∧ ∃ cs', Own w w' [(r, cs', 130)]) := fun w1 r cs h1 h2 => by
  rw [hD]
  exact (rdNum_any w w1 r _ _ _ cs [] h1 h2 hx'.out hxl.out).mono fun _ _ ⟨h3, cs', _, h4⟩ => ⟨h3, cs', h4⟩
 have hW : Hid (widthL bs = widthV bs.length T D) := by show _ = _; rw [hT, hD]; rfl
 obtain ⟨W, hW0⟩ : ∃ W, W = widthL bs := ⟨_, rfl⟩
 rw [← hW0] at hW ⊢
 obtain ⟨n, hn⟩ : ∃ n, n = bs.length := ⟨_, rfl⟩
 have hnew' : Hid (Calls Tryz.prog 48 #[.slice pv n cv] w fun e w' => ∃ r cs, e = .returned (.pointer (some ⟨r, 0, none⟩)) ∧ w.heap.size ≤ r ∧ RdAt w' r (w.heap.size ≤ ·) bs false cs ∧ Own w w' [(r, cs, 130)]) := by
  rw [hn]
  exact hnew.out.mono fun _ _ ⟨r, p, c, h1, h2, h3, h4, h5⟩ => ⟨r, _, h1, h2, RdAt.start h3 h4, h5⟩
 rw [← hn] at hW ⊢
 have hcode := Hh (fun w' i => code_any w' (wOf i))
 have hcr : Hid (∀ i, 0 ≤ codeOf (wOf i) ∧ codeOf (wOf i) < 9) := fun i => by
  unfold wOf
  split <;> decide
 clear hO hb hl hnew hb' hl' hx' hxl hT hD hW0 hn
 go_enter Tryz.func47, Tryz.ntmps47
 have z1 := tt
 go_wp2_with (first
  | (clear z1; go_at_call 48; refine hnew'.out.mono ?_; rintro e w1 ⟨r, cs, rfl, hr, R, H⟩; have z2 := tt)
  | (clear z2; go_at_call 49; refine (hn1.out _ r _ H R).mono ?_; rintro e w2 ⟨rfl, cs2, R2, H2⟩; clear H R; have z3 := tt)
  | (clear z3; go_at_call 49; refine (hn2.out _ r _ H2 R2).mono ?_; rintro e w3 ⟨rfl, cs3, H3⟩; clear H2 R2; have z4 := tt)
  | (clear z4; go_at_call 79; refine (types_any _).mono ?_; rintro e w4 ⟨tb, tc, rfl, hty, h3⟩; have H := (H3.call0 h3).end0 (by simpa using hr); have hty' := Hh hty; clear H3 h3 hty hnew' hn1 hn2))
 have H4 := Hh H
 clear H
 go_loopw [7, 16] (fun _ v16 wr => ∃ i : Nat, i ≤ 4 ∧ v16 = .int .i64 ((i : Nat) : Int) ∧ (∀ j, j < i → ¬ HitW n T D j) ∧ Own w4 wr []) (fun _ v16 _ => ((4 : Int) - intOf v16).toNat)
 case atStart => exact ⟨0, by omega, rfl, fun j hj => by omega, Own.refl w4⟩
 case round =>
  obtain ⟨i, hi, rfl, hno, H⟩ := hrel
  have hno' := Hh hno
  clear hno
  by_cases hin : i < 4
  · have hcell : Hid (wr.cell? ⟨tb, i, none⟩ = some (.int .i64 (wOf i))) := hty'.out wr H i hin
    have hmiss : Hid (¬ (n = 56 ∧ T = 5 ∧ D = codeOf (wOf i)) → ∀ j, j < i + 1 → ¬ HitW n T D j) := fun h j hj => by
     rcases Nat.lt_or_ge j i with h1 | h1
     · exact hno'.out j h1
     · obtain rfl : j = i := by omega
       exact h
    have hhit : Hid (n = 56 → T = 5 → D = codeOf (wOf i) → (W : Int) = wOf i) := fun h1 h2 h3 => by rw [hW.out]; exact width_hit h1 h2 hin h3
    have hc1 := Hh (fun w' => hcode.out w' i)
    obtain ⟨hc2, hc3⟩ := hcr.out i
    obtain ⟨ci, hci⟩ : ∃ c, c = codeOf (wOf i) := ⟨_, rfl⟩
    rw [← hci] at hc1 hc2 hc3 hmiss hhit
    obtain ⟨wi, hwi⟩ : ∃ c, c = wOf i := ⟨_, rfl⟩
    rw [← hwi] at hcell hc1 hhit
    clear hci hwi
    by_cases hA : n = 56 ∧ T = 5
    · obtain ⟨h1, h2⟩ := hA
      by_cases h3 : D = ci
      · have hh := Hh (hhit.out h1 h2 h3)
        have e3 : (D == ci) = true := by rw [beq_iff_eq]; exact h3
        clear hhit hmiss h3
        subst h1 h2
        have z5 := tt
        go_wp2_with (first
         | (refine st_val rfl (rn_cell rfl rfl rfl rfl hcell.out) ?_)
         | (clear z5; go_at_call 38; refine (hc1.out _).mono ?_; rintro e w5 ⟨rfl, h3⟩; replace H := H.call0 h3; clear h3))
        have HE := Hh (H4.out.trans H)
        clear H
        go_ret
        exact ⟨by rw [hh.out]; rfl, HE.out⟩
      · have hm := Hh (hmiss.out (fun h => h3 h.2.2))
        have e3 : (D == ci) = false := by rw [beq_eq_false_iff_ne]; exact h3
        clear hhit hmiss
        subst h1 h2
        have z5 := tt
        go_wp2_with (first
         | (refine st_val rfl (rn_cell rfl rfl rfl rfl hcell.out) ?_)
         | (clear z5; go_at_call 38; refine (hc1.out _).mono ?_; rintro e w5 ⟨rfl, h3⟩; replace H := H.call0 h3; clear h3))
        exact ⟨⟨i + 1, by omega, by go_num, hm.out, H⟩, by simp [intOf]; omega⟩
    · have hm := Hh (hmiss.out (fun h => hA ⟨h.1, h.2.1⟩))
      clear hhit hmiss
      by_cases h1 : n = 56
      · have h2 : ¬ T = 5 := fun h => hA ⟨h1, h⟩
        have e2 : (T == 5) = false := by rw [beq_eq_false_iff_ne]; exact h2
        clear hA
        subst h1
        go_wp2_with (refine st_val rfl (rn_cell rfl rfl rfl rfl hcell.out) ?_)
        exact ⟨⟨i + 1, by omega, by go_num, hm.out, H⟩, by simp [intOf]; omega⟩
      · have e1 : ((n : Int) == 56) = false := by rw [beq_eq_false_iff_ne]; omega
        have e2 : ¬ (n : Int) = 56 := by omega
        clear hA
        go_wp2_with (refine st_val rfl (rn_cell rfl rfl rfl rfl hcell.out) ?_)
        exact ⟨⟨i + 1, by omega, by go_num, hm.out, H⟩, by simp [intOf]; omega⟩
  · obtain rfl : i = 4 := by omega
    have hk := hW.out.trans (width_miss hno'.out)
    subst hk
    have HE := Hh (H4.out.trans H)
    clear H
    go_wp2_with fail
    go_ret
    exact ⟨rfl, HE.out⟩
theorem form_any (w : World) (v : Value) (bs : List Int) (hO : Old w v bs) (hb : IsBytes bs) (hl : bs.length ≤ 1000000) :
 Calls Tryz.prog 19 #[v] w fun e w' => e = .returned (.bool (decide (0 < widthL bs))) ∧ Own w w' [] := by
 have hw := Hh (width_any w v bs hO hb hl)
 obtain ⟨W, hW⟩ : ∃ W, W = widthL bs := ⟨_, rfl⟩
 rw [← hW] at hw ⊢
 clear hW hO hb hl
 go_enter Tryz.func19, Tryz.ntmps19
 go_wp2_with (go_at_call 47; refine hw.out.mono ?_; rintro e w1 ⟨rfl, H⟩)
 go_ret
 exact ⟨by simp, H⟩
end Go.Proofs.YtfihlmnbonnekaaGreat

/-! ots: the document's candidate. -/
namespace Go.Proofs.YtfihlmnbonnekaaGreat
open Go.RowKit
set_option maxHeartbeats 32000000
theorem rn_part {P : Program} {o : Oper} {a : Act} {w : World} {t e : TypeId} {x : Operand} {lo hi : Option Operand} (ho : o.op = .slice t x lo hi none) (hu : P.underlying t = some (.slice e)) (hs : (P.info? e).map (·.size) = some 1) {b off n c l h m d : Nat} (hx : a.eval x = .slice (some ⟨b, off, none⟩) n c)
 (hl : BoundIs (lo.map a.eval) 0 l) (hh : BoundIs (hi.map a.eval) n h) (h1 : l < h) (h2 : h ≤ n) (h3 : n ≤ c) (hm : h - l = m) (hd : c - l = d) : (execOp a.eval o).run P w = .ok (.value (.slice (some ⟨b, off + l, none⟩) m d)) w := by
 subst hm hd
 unfold execOp
 simp only [ho]
 generalize lo.map a.eval = lov at hl ⊢
 generalize hi.map a.eval = hiv at hh ⊢
 have e1 : h ≤ c := by omega
 have e2 : l ≤ h := by omega
 have e3 : ¬ c = l := by omega
 have e4 : l ≤ n := by omega
 cases hl with
 | no =>
   cases hh with
   | no => simp [hx, Instr.sliceAt, Instr.slice, Sem.run_bind, run_underlying hu, Instr.sliceBounds, run_sizeOf hs, add_plain]
   | yes h' =>
     subst h'
     simp [hx, Instr.sliceAt, Instr.slice, Sem.run_bind, run_underlying hu, Instr.sliceBounds, Instr.sliceBound, asIntOf, run_sizeOf hs, add_plain, e1]
 | yes h' =>
   subst h'
   cases hh with
   | no =>
     simp [hx, Instr.sliceAt, Instr.slice, Sem.run_bind, run_underlying hu, Instr.sliceBounds, Instr.sliceBound, asIntOf, run_sizeOf hs, add_plain, e4, e3]
   | yes h'' =>
     subst h''
     simp [hx, Instr.sliceAt, Instr.slice, Sem.run_bind, run_underlying hu, Instr.sliceBounds, Instr.sliceBound, asIntOf, run_sizeOf hs, add_plain, e1, e2, e3]
theorem Old.part {w : World} {b off n c l m d : Nat} {xs : List Int} (h : Old w (.slice (some ⟨b, off, none⟩) n c) xs) (hn : n = xs.length) (hlm : l + m ≤ n) (hm : 0 < m) (hd : m ≤ d) : Old w (.slice (some ⟨b, off + l, none⟩) m d) ((xs.drop l).take m) := by
 have hl2 : ((xs.drop l).take m).length = m := by rw [List.length_take, List.length_drop]; omega
 obtain ⟨h1, h2⟩ := h
 have hb : b < w.heap.size := World.block_lt_of_cell? w _ (byte_of h1 (show 0 < xs.length by omega))
 refine ⟨?_, fun k hk => by obtain rfl := (blk_some hk).1; exact hb⟩
 rw [BytesAt, hl2]
 refine Or.inr ⟨b, off + l, d, rfl, ⟨hd, fun h => by omega⟩, fun i x hx => ?_⟩
 have hi : i < m := by have := (List.getElem?_eq_some_iff.1 hx).1; simp at this; omega
 rw [ints_get (by rw [hl2]; exact hi)] at hx
 cases hx
 rw [Nat.add_assoc, byte_of h1 (show l + i < xs.length by omega)]
 congr 2
 rw [List.getElem?_take_of_lt hi, List.getElem?_drop]
theorem Old.at0 {w : World} {v : Value} {xs : List Int} (h : Old w v xs) (h0 : 0 < xs.length) : ∃ b off c, v = .slice (some ⟨b, off, none⟩) xs.length c ∧ xs.length ≤ c := by
 obtain ⟨h1, _⟩ := h
 rcases h1 with ⟨_, h2, _⟩ | ⟨b, off, c, rfl, h2, _⟩
 · omega
 · exact ⟨b, off, c, rfl, h2.1⟩
end Go.Proofs.YtfihlmnbonnekaaGreat
