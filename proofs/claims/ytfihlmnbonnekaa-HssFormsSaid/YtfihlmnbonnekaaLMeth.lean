/- lms: Public, Node, Sign. -/
import Derived.Test.YtfihlmnbonnekaaLGrow
namespace Go.Proofs.Ytfihlmnbonnekaa
open Go.RowKit

/-- a buffer that a call has made, in a region that draws its order -/
def BufR (B : Nat) (xs : List Int) : World → Value → Prop := fun w v => ∃ wb : World, B ≤ wb.heap.size ∧ Buf 5 .u8 wb w [] v xs
theorem BufR.mono (B : Nat) (xs : List Int) : Mono (BufR B xs) := fun _ _ _ h ⟨wb, h1, h2⟩ => ⟨wb, h1, h2.call0 h⟩
theorem BufR.use {B : Nat} {xs : List Int} {w0 w : World} {v : Value} {L : List Ent} (h : BufR B xs w v) (H : Own w0 w L) (hB : w0.heap.size ≤ B) (hL : ∀ k ∈ L.map (·.1), k < B) : Buf 5 .u8 w0 w L v xs := by
  obtain ⟨wb, h1, Lv, h2, h3, h4⟩ := h
  rw [List.append_nil] at h3
  refine ⟨Lv, h2, ⟨H.os, H.tape, H.output, H.size, fun k hk hn => H.keep k hk (fun hm => hn (by rw [List.map_append]; exact List.mem_append_right _ hm)), ?_, fun b cs T hm => ?_⟩, fun j hj => by have := h4 j hj; omega⟩
  · rw [List.map_append, List.nodup_append]
    refine ⟨h3.nodup, H.nodup, ?_⟩
    rintro a ha b hb rfl
    have := h4 a ha
    have := hL a hb
    omega
  · rcases List.mem_append.1 hm with hm | hm
    · exact h3.here b cs T hm
    · exact H.here b cs T hm
theorem BufR.new {B : Nat} {xs : List Int} {w : World} {v : Value} (h : BufR B xs w v) : NewS B v := by
  obtain ⟨wb, h1, h2⟩ := h
  exact fun j hj => Nat.le_trans h1 (h2.new j hj)
theorem BufR.old {B : Nat} {xs : List Int} {w : World} {v : Value} (h : BufR B xs w v) : Old w v xs := by
  obtain ⟨wb, h1, h2⟩ := h
  exact ⟨h2.bytesAt, h2.lt⟩

theorem signP_any (w : World) (id seed : List Int) (h16 : id.length = 16) (h32 : seed.length = 32) (q k : Nat) (hq : q < 32) (hk : k = 1 ∨ k = 2 ∨ k = 4 ∨ k = 8) (mv : Value) (msg : List Int) (hm : Old w mv msg) (hmb : IsBytes msg) (hml : msg.length ≤ 90000) {n : Nat} (hn : n = 36 + 32 * chN k) :
    Calls Try.prog 58 #[.agg (u8s (id ++ seed)).toArray, .int .i64 q, .int .i64 k, mv] w fun e w' => ∃ p c, e = .returned (.tuple #[.slice p n c, .int .i64 0]) ∧ Old w' (.slice p n c) (sigOf id seed q k msg) ∧ Own w w' [] :=
  (sign_any w id seed h16 h32 q k hq hk mv msg hm hmb hml).mono fun e w' ⟨r, h1, h2, h3⟩ => by
    have h4 := h2.1
    obtain ⟨p, c, rfl⟩ := h4
    rw [length_sigOf, ← hn] at h1 h2
    exact ⟨p, c, h1, ⟨h2.2.1, h2.2.2⟩, h3⟩

/-- a tree that is made stands there -/
def TreeAt (w : World) (b : Nat) (id seed : List Int) (k : Nat) : Prop := w.heap[b]? = some (.cells (fullT id seed k).toArray 104 (0, 0))
section
variable {w w' : World} {b : Nat} {id seed : List Int} {k : Nat} {L : List Ent}
theorem TreeAt.mv (h : TreeAt w b id seed k) (ho : Own w w' L) (hn : ∀ k ∈ L.map (·.1), w.heap.size ≤ k) : TreeAt w' b id seed k := by
  have hb : b < w.heap.size := (Array.getElem?_eq_some_iff.1 h).1
  unfold TreeAt
  rw [ho.keep b hb (fun hm => by have := hn b hm; omega)]
  exact h
theorem TreeAt.own (h : TreeAt w b id seed k) : Own w w [(b, fullT id seed k, 104)] := Own.one h
theorem TreeAt.of (h : Own w w' [(b, fullT id seed k, 104)]) : TreeAt w' b id seed k := h.here _ _ _ (.head _)
theorem TreeAt.kc (h : TreeAt w b id seed k) (h16 : id.length = 16) (h32 : seed.length = 32) : w.cell? ⟨b, 48, none⟩ = some (.int .i64 k) := (h.own.cell (.head _) 48).trans (tg_k (by rw [List.length_append]; omega))
theorem TreeAt.sc (h : TreeAt w b id seed k) : ∀ j v, (u8s (id ++ seed))[j]? = some v → w.cell? ⟨b, 0 + j, none⟩ = some v := fun j v hj => by rw [h.own.cell (.head _), Nat.zero_add]; exact tg_s hj
theorem TreeAt.ids (h : TreeAt w b id seed k) (h16 : id.length = 16) : BIn id w (.slice (some ⟨b, 0, none⟩) 16 16) := h.own.binAt (.head _) (fun j v hj => by rw [Nat.zero_add]; exact tg_s (by rw [u8s_app, List.getElem?_append_left (List.getElem?_eq_some_iff.1 hj).1]; exact hj)) h16.symm (by omega)
theorem TreeAt.nc (h : TreeAt w b id seed k) (h16 : id.length = 16) (h32 : seed.length = 32) {r : Nat} (h0 : 0 < r) (h64 : r < 64) : ∀ j v, (u8s (nodeOf id seed k r))[j]? = some v → w.cell? ⟨b, 52 + 32 * r + j, none⟩ = some v := fun j v hj => by
  rw [h.own.cell (.head _), Nat.add_assoc]
  exact tg_n (by rw [List.length_append]; omega) (tbl_at (length_nodeOf id seed k) h0 h64 hj)
theorem TreeAt.node (h : TreeAt w b id seed k) (h16 : id.length = 16) (h32 : seed.length = 32) {r : Nat} (h0 : 0 < r) (h64 : r < 64) : BIn (nodeOf id seed k r) w (.slice (some ⟨b, 52 + 32 * r, none⟩) 32 32) :=
  h.own.binAt (.head _) (fun j v hj => by rw [← h.own.cell (.head _)]; exact h.nc h16 h32 h0 h64 j v hj) (length_nodeOf id seed k r).symm (by omega)
end

def pubL (id seed : List Int) (k : Nat) : List Int := numB 5 4 ++ numB (cdN k) 4 ++ id ++ nodeOf id seed k 1
theorem length_pubL {id : List Int} (h16 : id.length = 16) (seed : List Int) (k : Nat) : (pubL id seed k).length = 56 := by
  unfold pubL
  rw [List.length_append, List.length_append, List.length_append, length_numB, length_numB, h16, length_nodeOf]
theorem isBytes_pubL {id : List Int} (hid : IsBytes id) (seed : List Int) (k : Nat) : IsBytes (pubL id seed k) := isBytes_app (isBytes_app (isBytes_app (isBytes_numB _ _) (isBytes_numB _ _)) hid) (isBytes_nodeOf id seed k 1)
set_option maxRecDepth 100000 in
set_option maxHeartbeats 4000000 in
theorem lpubB_any (w : World) (b : Nat) (id seed : List Int) (h16 : id.length = 16) (h32 : seed.length = 32) (k : Nat) (hk : k = 1 ∨ k = 2 ∨ k = 4 ∨ k = 8) (cs : List Value) (hcs : IsTree id seed k cs) (H0 : Own w w [(b, cs, 104)]) :
    Calls Try.prog 30 #[.pointer (some ⟨b, 0, none⟩)] w fun e w' => ∃ p c, e = .returned (.slice p 56 c) ∧ BufR w.heap.size (pubL id seed k) w' (.slice p 56 c) ∧ Own w w' [(b, fullT id seed k, 104)] := by
  have hgr := Lib.hid (grow_any w b id seed h16 h32 k hk cs hcs H0)
  have hcd := Lib.hid (fun w' => code_k w' k hk)
  have tk := Lib.hid (fun w (h : TreeAt w b id seed k) => h.kc h16 h32)
  have ti := Lib.hid (fun w (h : TreeAt w b id seed k) => h.ids h16)
  have tn : Hid (∀ w, TreeAt w b id seed k → BIn (nodeOf id seed k 1) w (.slice (some ⟨b, 84, none⟩) 32 32)) := fun w h => h.node h16 h32 (r := 1) (by omega) (by omega)
  have hcdl : Hid (∃ c, c = cdN k) := ⟨_, rfl⟩
  obtain ⟨cd, hcd1⟩ := hcdl.out
  rw [← hcd1] at hcd
  have hcd2 : 1 ≤ cd ∧ cd ≤ 4 := by rw [hcd1]; rcases hk with rfl | rfl | rfl | rfl <;> decide
  obtain ⟨hcd3, hcd4⟩ := hcd2
  have hfin : Hid ([] ++ numB 5 4 ++ numB cd 4 ++ id ++ nodeOf id seed k 1 = pubL id seed k) := by show _ = _; rw [hcd1]; rfl
  have hl1 : Hid (([] ++ numB 5 4 : List Int).length = 4) := by show _ = _; rw [List.nil_append, length_numB]
  have hl2 : Hid (([] ++ numB 5 4 ++ numB cd 4 : List Int).length = 8) := by show _ = _; rw [List.length_append, hl1.out, length_numB]
  have hl3 : Hid (([] ++ numB 5 4 ++ numB cd 4 ++ id : List Int).length = 24) := by show _ = _; rw [List.length_append, hl2.out, h16]
  have h16' := Lib.hid h16
  have hnl := Lib.hid (length_nodeOf id seed k 1)
  have hpl := Lib.hid (length_pubL h16 seed k)
  obtain ⟨N1, hN1⟩ : ∃ N, N = nodeOf id seed k 1 := ⟨_, rfl⟩
  obtain ⟨PL, hPL⟩ : ∃ N, N = pubL id seed k := ⟨_, rfl⟩
  rw [← hN1] at tn hfin hnl
  rw [← hPL] at hfin hpl ⊢
  clear h16 h32 hk hcs H0 hcd1 hN1 hPL
  go_enter Try.func30, Try.ntmps30
  have tok1 : True := trivial
  go_wp2_with (first
    | (clear tok1; go_at_call 57; refine hgr.out.mono ?_; rintro e w1 ⟨rfl, H1⟩; have T1 := TreeAt.of H1; have HW := Lib.hid H1; have hb1 := H1.lt (.head _); clear H1 hgr; have H := Own.refl w1; have tok2 : True := trivial)
    | (clear tok2; refine st_new rfl (rn_alloc H rfl info_writer) ?_; clear H; intro b3 w2 hb3 H; have B : Buf 5 .u8 w1 w2 ((b3, [.slice none 0 0], 107) :: []) (.slice none 0 0) [] := Buf.nil H; clear H; have tok3 : True := trivial)
    | (clear tok3; go_at_call 59; refine (num_any _ _ _ _ _ _ B 5 4 (by omega) (by omega) (by simp)).mono ?_; rintro e w3 ⟨rfl, v3, B2⟩; clear B; have B := B2; clear B2; have tok4 : True := trivial)
    | (clear tok4; refine st_val rfl (rn_cell rfl rfl rfl rfl (tk.out _ (T1.mv B.own0 (by simpa using hb3)))) ?_; have tok5 : True := trivial)
    | (clear tok5; go_at_call 62; refine (hcd.out _).mono ?_; rintro e w4 ⟨rfl, h3⟩; have B2 := B.call0 h3; clear B h3; have B := B2; clear B2; have tok6 : True := trivial)
    | (clear tok6; go_at_call 59; refine (num_any _ _ _ _ _ _ B cd 4 (by omega) (by omega) (by rw [hl1.out]; omega)).mono ?_; rintro e w5 ⟨rfl, v5, B2⟩; clear B; have B := B2; clear B2; have tok7 : True := trivial)
    | (refine st_val rfl (rn_sliceAll rfl rfl size_u8 rfl (by omega)) ?_)
    | (clear tok7; go_at_call 60; refine (raw_any _ _ _ _ _ _ B _ id (ti.out _ (T1.mv B.own0 (by simpa using hb3))).2.1 (by rw [hl2.out, h16'.out]; omega)).mono ?_; rintro e w6 ⟨rfl, v6, B2⟩; clear B; have B := B2; clear B2; have tok8 : True := trivial)
    | (clear tok8; refine st_val rfl (rn_idxArrN (j := 1) rfl rfl size_hash rfl rfl rfl (by omega) rfl) ?_; have tok9 : True := trivial)
    | (clear tok9; go_at_call 60; refine (raw_any _ _ _ _ _ _ B _ _ (tn.out _ (T1.mv B.own0 (by simpa using hb3))).2.1 (by rw [hl3.out, hnl.out]; omega)).mono ?_; rintro e w7 ⟨rfl, v7, B2⟩; rw [hfin.out] at B2; clear B; have B := B2; clear B2; have tok10 : True := trivial)
    | (clear tok10; go_at_call 61; refine (bytesB_any _ b3 v7 _ (B.own0.sub1 (.head _)) B.bytesAt B.lt (by rw [hpl.out]; omega)).mono ?_; rintro e w8 ⟨r, rfl, hr⟩; have R8 := Lib.hid hr; have g8 := Nat.le_trans HW.out.size B.own0.size; have H := B.own0.call0 hr.own0; clear B hr))
  have hs := R8.out.slice
  obtain ⟨pr, cr, e8⟩ := hs
  subst e8
  rw [hpl.out] at R8 ⊢
  have h1 := Lib.hid (H.end0 (by simpa using hb3))
  clear H
  go_ret
  exact ⟨_, _, rfl, ⟨w7, g8, R8.out⟩, HW.out.call0 h1.out⟩
theorem lpub_any (w : World) (b : Nat) (id seed : List Int) (h16 : id.length = 16) (h32 : seed.length = 32) (k : Nat) (hk : k = 1 ∨ k = 2 ∨ k = 4 ∨ k = 8) (cs : List Value) (hcs : IsTree id seed k cs) (H0 : Own w w [(b, cs, 104)]) :
    Calls Try.prog 30 #[.pointer (some ⟨b, 0, none⟩)] w fun e w' => ∃ p c, e = .returned (.slice p 56 c) ∧ Old w' (.slice p 56 c) (pubL id seed k) ∧ NewS w.heap.size (.slice p 56 c) ∧ Own w w' [(b, fullT id seed k, 104)] :=
  (lpubB_any w b id seed h16 h32 k hk cs hcs H0).mono fun _ _ ⟨p, c, h1, h2, h3⟩ => ⟨p, c, h1, h2.old, h2.new, h3⟩
theorem lpub_nil (w : World) : Calls Try.prog 30 #[.pointer none] w fun e w' => e = .returned (.slice none 0 0) ∧ Own w w' [] := by
  go_enter Try.func30, Try.ntmps30
  go_wp2
  go_ret
  exact ⟨rfl, Own.refl w⟩

set_option maxRecDepth 100000 in
set_option maxHeartbeats 4000000 in
theorem lnode_any (w : World) (b : Nat) (id seed : List Int) (h16 : id.length = 16) (h32 : seed.length = 32) (k : Nat) (hk : k = 1 ∨ k = 2 ∨ k = 4 ∨ k = 8) (cs : List Value) (hcs : IsTree id seed k cs) (H0 : Own w w [(b, cs, 104)]) (r : Nat) (h0 : 0 < r) (h64 : r < 64) :
    Calls Try.prog 29 #[.pointer (some ⟨b, 0, none⟩), .int .i64 r] w fun e w' => e = .returned (.tuple #[.agg (u8s (nodeOf id seed k r)).toArray, .int .i64 0]) ∧ Own w w' [(b, fullT id seed k, 104)] := by
  have hgr : Hid (∀ w1 L, Own w w1 (L ++ [(b, cs, 104)]) → Calls Try.prog 57 #[.pointer (some ⟨b, 0, none⟩)] w1 fun e w2 => e = .returned (.tuple #[]) ∧ Own w1 w2 [(b, fullT id seed k, 104)]) := fun w1 L h => grow_any w1 b id seed h16 h32 k hk cs hcs (h.sub1 (List.mem_append_right _ (.head _)))
  have tn : Hid (∀ w, TreeAt w b id seed k → ∀ j v, (u8s (nodeOf id seed k r))[j]? = some v → w.cell? ⟨b, 52 + 32 * r + j, none⟩ = some v) := fun w h => h.nc h16 h32 h0 h64
  have hnl := Lib.hid (length_nodeOf id seed k r)
  obtain ⟨N, hN⟩ : ∃ N, N = nodeOf id seed k r := ⟨_, rfl⟩
  rw [← hN] at tn hnl ⊢
  have H := H0
  clear H0 hN h16 h32 hk hcs
  go_enter Try.func29, Try.ntmps29
  have tok1 : True := trivial
  go_wp2_with (first
    | (clear tok1; refine st_new rfl (rn_alloc H rfl info_hash) ?_; clear H; intro b4 w1 hb4 H; have tok2 : True := trivial)
    | (clear tok2; go_at_call 57; refine (hgr.out _ [_] H).mono ?_; rintro e w2 ⟨rfl, H1⟩; have T1 := TreeAt.of H1; have H2 := Own.next (L := [_]) (M := [_]) (H.perm (List.Perm.swap _ _ _)) H1 rfl; clear H H1; have H := H2.perm (List.Perm.swap _ _ _); clear H2; have tok3 : True := trivial)
    | (clear tok3; refine st_val rfl (rn_idxArrN (j := r) rfl rfl size_hash rfl rfl rfl h64 rfl) ?_; have tok4 : True := trivial)
    | (clear tok4; refine st_val rfl (rn_cells rfl rfl rfl rfl (size_hashL hnl.out) (tn.out _ T1)) ?_; have tok5 : True := trivial)
    | (clear tok5; refine st_skip rfl (rn_storeAll (vs := u8s N) H rfl rfl rfl (size_hashL hnl.out) .head (by rw [length_ints, length_ints, hnl.out]; rfl) (oneCell_ints _ _)) ?_; clear H; intro w3 H))
  refine fin_cell2 (cs := u8s N) rfl H rfl (.head _) rfl rfl (size_hashL hnl.out) rfl rfl ⟨rfl, H.drop (L1 := [_]) (by simpa using hb4)⟩
set_option maxRecDepth 100000 in
theorem lnode_bad (w : World) (v : Value) (r : Int) (hr : v = .pointer none ∨ (∃ b : Nat, v = .pointer (some ⟨b, 0, none⟩)) ∧ (r < 1 ∨ 64 ≤ r)) :
    Calls Try.prog 29 #[v, .int .i64 r] w fun e w' => e = .returned (.tuple #[.agg (u8s (List.replicate 32 0)).toArray, .int .i64 1]) ∧ Own w w' [] := by
  have H := Own.refl w
  rcases hr with rfl | ⟨⟨b, rfl⟩, hr | hr⟩
  all_goals
    go_enter Try.func29, Try.ntmps29
    have tok1 : True := trivial
    go_wp2_with (first
      | (clear tok1; refine st_new rfl (rn_alloc H rfl info_hash) ?_; clear H; intro b4 w1 hb4 H)
      | (refine st_skip rfl (rn_storeAll (vs := u8s (List.replicate 32 0)) H rfl rfl rfl (by kernel_rfl) .head (by kernel_rfl) (oneCell_ints _ _)) ?_; clear H; intro w3 H))
    exact fin_cell2 (cs := u8s (List.replicate 32 0)) rfl H rfl (.head _) rfl rfl (by kernel_rfl) rfl rfl ⟨rfl, H.end0 (by simpa using hb4)⟩

/-- the path's node at a level -/
def sibN (r : Nat) : Nat := if r % 2 = 0 then r + 1 else r - 1
def pathOf (id seed : List Int) (k q i : Nat) : List Int := nodeOf id seed k (sibN ((q + 32) / 2 ^ i))
def lsigOf (id seed : List Int) (k q : Nat) (msg : List Int) : List Int := numB q 4 ++ sigOf id seed q k msg ++ numB 5 4 ++ flatX (pathOf id seed k q) 5
set_option maxRecDepth 100000 in
theorem xor_one : ∀ r : Nat, r < 64 → bits .xor .i64 (r : Int) 1 = ((sibN r : Nat) : Int) := by decide
theorem sibN_lt {r : Nat} (h : 2 ≤ r) (h64 : r < 64) : 0 < sibN r ∧ sibN r < 64 := by unfold sibN; split <;> omega
theorem path_r {q i : Nat} (hq : q < 32) (hi : i < 5) : 2 ≤ (q + 32) / 2 ^ i ∧ (q + 32) / 2 ^ i < 64 ∧ (q + 32) / 2 ^ i / 2 = (q + 32) / 2 ^ (i + 1) := by
  match i, hi with
  | 0, _ => refine ⟨by omega, by omega, by omega⟩
  | 1, _ => refine ⟨by omega, by omega, by omega⟩
  | 2, _ => refine ⟨by omega, by omega, by omega⟩
  | 3, _ => refine ⟨by omega, by omega, by omega⟩
  | 4, _ => refine ⟨by omega, by omega, by omega⟩
theorem path_end {q : Nat} (hq : q < 32) : (q + 32) / 2 ^ 5 = 1 := by omega
theorem length_pathOf (id seed : List Int) (k q i : Nat) : (pathOf id seed k q i).length = 32 := length_nodeOf ..
theorem isBytes_pathOf (id seed : List Int) (k q i : Nat) : IsBytes (pathOf id seed k q i) := isBytes_nodeOf _ _ _ _
theorem length_lsigOf (id seed : List Int) (k q : Nat) (msg : List Int) : (lsigOf id seed k q msg).length = sizeOfL k := by
  unfold lsigOf sizeOfL
  rw [List.length_append, List.length_append, List.length_append, length_numB, length_numB, length_sigOf, length_flatX (length_pathOf id seed k q)]
  omega
theorem isBytes_lsigOf (id seed : List Int) (k q : Nat) (msg : List Int) : IsBytes (lsigOf id seed k q msg) :=
  isBytes_app (isBytes_app (isBytes_app (isBytes_numB _ _) (isBytes_sigOf _ _ _ _ _)) (isBytes_numB _ _)) (isBytes_flatX (isBytes_pathOf id seed k q) 5)
/-- bytes, with a code that says all went right -/
def TupB (n : Nat) (xs : List Int) : World → Value → Prop := fun w v => ∃ p c, v = .tuple #[.slice p n c, .int .i64 0] ∧ Old w (.slice p n c) xs
theorem TupB.mono (n : Nat) (xs : List Int) : Mono (TupB n xs) := fun _ _ _ h ⟨p, c, h1, h2⟩ => ⟨p, c, h1, h2.mv h (by simp)⟩
/-- the slice of them -/
def SlB (n : Nat) (xs : List Int) : World → Value → Prop := fun w v => ∃ p c, v = .slice p n c ∧ Old w (.slice p n c) xs
theorem SlB.mono (n : Nat) (xs : List Int) : Mono (SlB n xs) := fun _ _ _ h ⟨p, c, h1, h2⟩ => ⟨p, c, h1, h2.mv h (by simp)⟩

set_option maxRecDepth 100000 in
set_option maxHeartbeats 8000000 in
theorem lsignB_any (w : World) (b : Nat) (id seed : List Int) (h16 : id.length = 16) (h32 : seed.length = 32) (k : Nat) (hk : k = 1 ∨ k = 2 ∨ k = 4 ∨ k = 8) (cs : List Value) (hcs : IsTree id seed k cs) (q : Nat) (hq : q < 32) (mv : Value) (msg : List Int) (hm : Old w mv msg) (hmb : IsBytes msg) (hml : msg.length ≤ 90000)
    (H0 : Own w w [(b, cs, 104)]) (hmne : ∀ k, blk mv = some k → k ≠ b) {n : Nat} (hn : n = sizeOfL k) :
    Calls Try.prog 28 #[.pointer (some ⟨b, 0, none⟩), .int .i64 q, mv] w fun e w' => ∃ p c, e = .returned (.tuple #[.slice p n c, .int .i64 0]) ∧ BufR w.heap.size (lsigOf id seed k q msg) w' (.slice p n c) ∧ Own w w' [(b, fullT id seed k, 104)] := by
  have hgr := Lib.hid (grow_any w b id seed h16 h32 k hk cs hcs H0)
  have hmo : Hid (∀ w1, Own w w1 [(b, fullT id seed k, 104)] → Old w1 mv msg) := fun w1 h => ⟨SlAt.own hm.1 h (fun k hk => by simpa using hmne k hk), fun k hk => Nat.lt_of_lt_of_le (hm.2 k hk) h.size⟩
  have tk := Lib.hid (fun w (h : TreeAt w b id seed k) => h.kc h16 h32)
  have ts := Lib.hid (fun w (h : TreeAt w b id seed k) => h.sc)
  have hC := chN_le k
  obtain ⟨sn, hsn⟩ : ∃ n, n = 36 + 32 * chN k := ⟨_, rfl⟩
  have hsn9 : sn ≤ 9000 := by omega
  have hsg : Hid (∀ w1, Old w1 mv msg → Calls Try.prog 58 #[.agg (u8s (id ++ seed)).toArray, .int .i64 q, .int .i64 k, mv] w1 fun e w2 => ∃ r, e = .returned r ∧ TupB sn (sigOf id seed q k msg) w2 r ∧ Own w1 w2 []) := fun w1 h => (signP_any w1 id seed h16 h32 q k hq hk mv msg h hmb hml hsn).mono fun e w2 ⟨p, c, h1, h2, h3⟩ => ⟨_, h1, ⟨p, c, rfl, h2⟩, h3⟩
  have hsl : Hid ((sigOf id seed q k msg).length = sn) := by show _ = _; rw [length_sigOf, hsn]
  have hfin : Hid ([] ++ numB q 4 ++ sigOf id seed q k msg ++ numB 5 4 ++ flatX (pathOf id seed k q) 5 = lsigOf id seed k q msg) := rfl
  have hll : Hid ((lsigOf id seed k q msg).length = n) := by show _ = _; rw [length_lsigOf, hn]
  have hn9 : n ≤ 9000 := by rw [hn]; unfold sizeOfL; omega
  have hpl := Lib.hid (length_pathOf id seed k q)
  have tp : Hid (∀ w, TreeAt w b id seed k → ∀ i, i < 5 → BIn (pathOf id seed k q i) w (.slice (some ⟨b, 52 + sibN ((q + 32) / 2 ^ i) * 32, none⟩) 32 32)) := fun w h i hi => by
    rw [Nat.mul_comm]
    obtain ⟨g1, g2, _⟩ := path_r hq hi
    obtain ⟨g3, g4⟩ := sibN_lt g1 g2
    exact h.node h16 h32 g3 g4
  obtain ⟨sg, hsg1⟩ : ∃ s, s = sigOf id seed q k msg := ⟨_, rfl⟩
  obtain ⟨ls, hls1⟩ : ∃ s, s = lsigOf id seed k q msg := ⟨_, rfl⟩
  obtain ⟨Y, hY⟩ : ∃ Y, Y = pathOf id seed k q := ⟨_, rfl⟩
  rw [← hsg1] at hsg hsl hfin
  rw [← hls1] at hfin hll ⊢
  rw [← hY] at hfin hpl tp
  have hsz48 := Lib.hid (size_secretL h16 h32)
  have hl1 : Hid (([] ++ numB q 4 : List Int).length = 4) := by show _ = _; rw [List.nil_append, length_numB]
  have hl2 : Hid (([] ++ numB q 4 ++ sg : List Int).length = 4 + sn) := by show _ = _; rw [List.length_append, hl1.out, hsl.out]
  have hl3 : Hid (([] ++ numB q 4 ++ sg ++ numB 5 4 : List Int).length = 8 + sn) := by show _ = _; rw [List.length_append, hl2.out, length_numB]; omega
  have hmsh := hm.shape
  obtain ⟨pm, cm, e1⟩ := hmsh
  subst e1
  obtain ⟨ml, hmln⟩ : ∃ l, l = msg.length := ⟨_, rfl⟩
  rw [← hmln] at hmo hsg ⊢
  clear h16 h32 hk hcs H0 hm hmb hml hmne hsg1 hls1 hY hsn hn hmln hC
  go_enter Try.func28, Try.ntmps28
  go_wp2_with (go_at_call 57; refine hgr.out.mono ?_; rintro e w1 ⟨rfl, H1⟩)
  have T1 := Lib.hid (TreeAt.of H1)
  have M1 := Lib.hid (hmo.out _ H1)
  have HW := Lib.hid H1
  clear H1 hgr hmo
  refine region_grow 15 (by kernel_rfl) (by kernel_rfl) (by kernel_rfl) [.val (.pointer (some ⟨b, 0, none⟩)), .val (.pointer (some ⟨b, 0, none⟩)), .val (.pointer (some ⟨b, 0, none⟩)), .val (.agg (u8s (id ++ seed)).toArray), .val (.int .i64 q), .val (.pointer (some ⟨b, 0, none⟩)), .val (.pointer (some ⟨b, 0, none⟩)), .val (.pointer (some ⟨b, 48, none⟩)), .val (.int .i64 k), .val (.slice pm ml cm), .rel (TupB sn sg), .rel (TupB sn sg), .rel (SlB sn sg), .val (.int .i64 0), .rel (SlB sn sg)] rfl ?_
  have tok3 : True := trivial
  try go_frame
  repeat (first
    | (clear tok3; refine sp_run (v := .agg (u8s (id ++ seed)).toArray) rfl (fun w' hw' _ => rn_cells rfl rfl rfl rfl hsz48.out (ts.out _ (T1.out.mv hw' (by simp)))) ?_; try go_frame; have tok4 : True := trivial)
    | (clear tok4; refine sp_run (v := .int .i64 k) rfl (fun w' hw' _ => rn_cell rfl rfl rfl rfl (tk.out _ (T1.out.mv hw' (by simp)))) ?_; try go_frame; have tok5 : True := trivial)
    | (clear tok5; refine sp_callR (args := #[.agg (u8s (id ++ seed)).toArray, .int .i64 q, .int .i64 k, .slice pm ml cm]) (TupB.mono _ _) rfl rfl (by simp [Act.eval]) Try.func58 (by kernel_rfl) (by kernel_rfl) (fun w' hw' _ => hsg.out w' (M1.out.mv hw' (by simp))) ?_; intro v35; try go_frame; have tok6 : True := trivial)
    | (clear tok6; refine sp_rel (TupB.mono _ _) rfl (fun w' hw' hF => yieldsTo_val' (rn_move rfl rfl) ⟨Own.refl _, hF.2 _ rfl (List.mem_of_elem_eq_true (by kernel_rfl))⟩) ?_; intro v24; try go_frame; have tok7 : True := trivial)
    | (clear tok7; refine sp_rel (SlB.mono _ _) rfl (fun w' hw' hF => ?_) ?_
       · obtain ⟨p, c, e, h⟩ := hF.2 _ rfl (List.mem_of_elem_eq_true (by kernel_rfl))
         exact yieldsTo_val' (rn_extract rfl e rfl) ⟨Own.refl _, p, c, rfl, h⟩
       intro v36; try go_frame; have tok8 : True := trivial)
    | (clear tok8; refine sp_run (v := .int .i64 0) rfl (fun w' hw' hF => ?_) ?_
       · obtain ⟨p, c, e, h⟩ := hF.1.2 _ rfl (List.mem_of_elem_eq_true (by kernel_rfl))
         exact rn_extract rfl e rfl
       try go_frame; have tok9 : True := trivial)
    | (clear tok9; refine sp_rel (SlB.mono _ _) rfl (fun w' hw' hF => yieldsTo_val' (rn_assign rfl rfl) ⟨Own.refl _, hF.2 _ rfl (List.mem_of_elem_eq_true (by kernel_rfl))⟩) ?_; intro v8; try go_frame)
    | (refine sp_val (fun w' hw' hF => ?_) ⟨_, rfl, Nat.le_of_ble_eq_true rfl⟩ ?_
       · go_big_quiet_step (fail)
         exact rfl
       try go_frame))
  refine sp_nil ?_
  intro w2 hw' hF
  obtain ⟨ps, cs2, e8, S2⟩ := hF.2 _ rfl trivial
  subst e8
  have S2' := Lib.hid S2
  have H2 := Lib.hid hw'
  have T2 := Lib.hid (T1.out.mv hw' (by simp))
  clear hw' hF S2 T1 M1 hsg
  simp only [List.drop_succ_cons, List.drop_zero]
  have H := Own.refl w2
  have tok3 : True := trivial
  go_wp2_with (first
    | (clear tok3; refine st_new rfl (rn_alloc H rfl info_writer) ?_; clear H; intro b10 w3 hb10 H; have B : Buf 5 .u8 w2 w3 ((b10, [.slice none 0 0], 107) :: []) (.slice none 0 0) [] := Buf.nil H; clear H; have tok4 : True := trivial)
    | (clear tok4; go_at_call 59; refine (num_any _ _ _ _ _ _ B q 4 (by omega) (by omega) (by simp)).mono ?_; rintro e w4 ⟨rfl, v4, B2⟩; clear B; have B := B2; clear B2; have tok5 : True := trivial)
    | (clear tok5; go_at_call 60; refine (raw_any _ _ _ _ _ _ B _ sg (S2'.out.at B.own0 (by simpa using hb10)) (by rw [hl1.out, hsl.out]; omega)).mono ?_; rintro e w5 ⟨rfl, v5, B2⟩; clear B; have B := B2; clear B2; have tok6 : True := trivial)
    | (clear tok6; go_at_call 59; refine (num_any _ _ _ _ _ _ B 5 4 (by omega) (by omega) (by rw [hl2.out]; omega)).mono ?_; rintro e w6 ⟨rfl, v6, B2⟩; clear B; have B := B2; clear B2))
  obtain ⟨A, hA⟩ : ∃ A, A = ([] ++ numB q 4 ++ sg ++ numB 5 4 : List Int) := ⟨_, rfl⟩
  rw [← hA] at B hl3 hfin
  clear hA hl1 hl2
  go_loopw [11] (fun v11 wr => ∃ (i : Nat) (u : Value), i ≤ 5 ∧ v11 = .int .i64 (((q + 32) / 2 ^ i : Nat) : Int) ∧ Buf 5 .u8 w2 wr ((b10, [u], 107) :: []) u (A ++ flatX Y i)) (fun v11 _ => (intOf v11).toNat)
  case atStart => exact ⟨0, v6, by omega, by rw [Nat.pow_zero, Nat.div_one]; rfl, by rw [flatX_zero, List.append_nil]; exact B⟩
  case round =>
    clear B
    obtain ⟨i, u, hi, rfl, B⟩ := hrel
    by_cases hin : i < 5
    · obtain ⟨g1, g2, g3⟩ := path_r hq hin
      have hx := xor_one _ g2
      obtain ⟨g4, g5⟩ := sibN_lt g1 g2
      have tp1 := Lib.hid (fun w h => tp.out w h i hin)
      have hst : Hid (A ++ flatX Y i ++ Y i = A ++ flatX Y (i + 1)) := by show _ = _; rw [flatX_succ, List.append_assoc]
      have hfl : Hid ((A ++ flatX Y i).length = 8 + sn + 32 * i) := by show _ = _; rw [List.length_append, hl3.out, length_flatX hpl.out]
      have hyl := Lib.hid (hpl.out i)
      obtain ⟨r, hr⟩ : ∃ r, r = (q + 32) / 2 ^ i := ⟨_, rfl⟩
      rw [← hr] at g1 g2 g3 hx g4 g5 tp1 ⊢
      obtain ⟨Yi, hYi⟩ : ∃ y, y = Y i := ⟨_, rfl⟩
      rw [← hYi] at tp1 hst hyl
      have g3' := Lib.hid g3
      clear hr hYi g3
      have tok7 : True := trivial
      go_wp2_with (first
        | (clear tok7; go_at_call 60; refine (raw_any _ _ _ _ _ _ B _ Yi (tp1.out _ (T2.out.mv B.own0 (by simpa using hb10))).2.1 (by rw [hfl.out, hyl.out]; omega)).mono ?_; rintro e w7 ⟨rfl, v7, B2⟩; rw [hst.out] at B2; clear B; have B := B2; clear B2))
      refine ⟨⟨i + 1, _, by omega, ?_, B⟩, ?_⟩
      · rw [← g3'.out]; go_num
      · simp [intOf]; omega
    · obtain rfl : i = 5 := by omega
      rw [hfin.out] at B
      have hend := path_end hq
      rw [hend]
      clear hend
      go_wp2_with (go_at_call 61; refine (bytesB_any _ b10 u _ (B.own0.sub1 (.head _)) B.bytesAt B.lt (by rw [hll.out]; omega)).mono ?_; rintro e w8 ⟨r, rfl, hr⟩; have R8 := Lib.hid hr; have g8 := Nat.le_trans (Nat.le_trans HW.out.size H2.out.size) B.own0.size; have H := B.own0.call0 hr.own0; clear B hr)
      have hs := R8.out.slice
      obtain ⟨pr, cr, e8⟩ := hs
      subst e8
      rw [hll.out] at R8 ⊢
      have h1 := Lib.hid (H.end0 (by simpa using hb10))
      clear H
      go_ret2
      exact ⟨_, _, rfl, ⟨_, g8, R8.out⟩, HW.out.call0 (H2.out.trans h1.out)⟩
theorem lsign_any (w : World) (b : Nat) (id seed : List Int) (h16 : id.length = 16) (h32 : seed.length = 32) (k : Nat) (hk : k = 1 ∨ k = 2 ∨ k = 4 ∨ k = 8) (cs : List Value) (hcs : IsTree id seed k cs) (q : Nat) (hq : q < 32) (mv : Value) (msg : List Int) (hm : Old w mv msg) (hmb : IsBytes msg) (hml : msg.length ≤ 90000)
    (H0 : Own w w [(b, cs, 104)]) (hmne : ∀ k, blk mv = some k → k ≠ b) {n : Nat} (hn : n = sizeOfL k) :
    Calls Try.prog 28 #[.pointer (some ⟨b, 0, none⟩), .int .i64 q, mv] w fun e w' => ∃ p c, e = .returned (.tuple #[.slice p n c, .int .i64 0]) ∧ Old w' (.slice p n c) (lsigOf id seed k q msg) ∧ NewS w.heap.size (.slice p n c) ∧ Own w w' [(b, fullT id seed k, 104)] :=
  (lsignB_any w b id seed h16 h32 k hk cs hcs q hq mv msg hm hmb hml H0 hmne hn).mono fun _ _ ⟨p, c, h1, h2, h3⟩ => ⟨p, c, h1, h2.old, h2.new, h3⟩
theorem lsign_bad (w : World) (v mv : Value) (q : Int) (hr : v = .pointer none ∨ (∃ b : Nat, v = .pointer (some ⟨b, 0, none⟩)) ∧ q < 0) :
    Calls Try.prog 28 #[v, .int .i64 q, mv] w fun e w' => e = .returned (.tuple #[.slice none 0 0, .int .i64 1]) ∧ Own w w' [] := by
  rcases hr with rfl | ⟨⟨b, rfl⟩, hr⟩
  all_goals
    go_enter Try.func28, Try.ntmps28
    go_wp2
    go_ret2
    exact ⟨rfl, Own.refl w⟩
theorem lsign_full (w : World) (b : Nat) (mv : Value) (q : Int) (hq : 32 ≤ q) :
    Calls Try.prog 28 #[.pointer (some ⟨b, 0, none⟩), .int .i64 q, mv] w fun e w' => e = .returned (.tuple #[.slice none 0 0, .int .i64 4]) ∧ Own w w' [] := by
  go_enter Try.func28, Try.ntmps28
  go_wp2
  go_ret2
  exact ⟨rfl, Own.refl w⟩

end Go.Proofs.Ytfihlmnbonnekaa
