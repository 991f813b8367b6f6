/- chirographlaw4.LmsPaths: the walk. -/
import Derived.Test.YtfihlmnbonnekaaLTold
import Derived.Test.YtfihlmnbonnekaaCat
namespace Go.Proofs.Ytfihlmnbonnekaa
open Go.RowKit

section
variable {P : Program} {ops : Array Oper} {rest : List Oper} {o : Oper} {a : Act} {w : World} {Q : Exit → Act → World → Prop}
theorem st_valG (hw : Region.wanted o (yielded ops a.tmps) = true) {v : Value} (hrun : (execOp a.eval o).run P w = .ok (.value v) w) (h : wpList P ops Q rest (a.put o.dst v) w) : wpList P ops Q (o :: rest) a w :=
  BigFrame.wpList_want hw fun K hK => by unfold Oper.wp; rw [hrun, Oper.upon_value]; exact hK _ _ h
end
theorem split48 {xs : List Int} (h : xs.length = 48) : ∃ id seed : List Int, xs = id ++ seed ∧ id.length = 16 ∧ seed.length = 32 := ⟨xs.take 16, xs.drop 16, (List.take_append_drop 16 xs).symm, by rw [List.length_take]; omega, by rw [List.length_drop]; omega⟩
theorem isBytes_left {a b : List Int} (h : IsBytes (a ++ b)) : IsBytes a := isBytes_mem.2 fun x hx => isBytes_mem.1 h x (List.mem_append_left _ hx)
theorem lsig_bytes (id seed : List Int) {q : Nat} (hq : q < 32) (msg : List Int) : (lsigOf id seed 2 q msg)[0]? = some 0 ∧ (lsigOf id seed 2 q msg)[1]? = some 0 ∧ (lsigOf id seed 2 q msg)[2]? = some 0 ∧ (lsigOf id seed 2 q msg)[3]? = some (q : Int) ∧ (lsigOf id seed 2 q msg)[7]? = some 2 ∧ (lsigOf id seed 2 q msg)[4299]? = some 5 := by
  rw [lsig_eq, numB_small q hq]
  refine ⟨rfl, rfl, rfl, rfl, ?_, ?_⟩
  · have e : sigOf id seed q 2 msg = [0, 0, 0, 2] ++ (randOf id seed q ++ flatX (chainOf id seed q (dgN (msgOf id q (randOf id seed q) msg) 2)) (chN 2)) := by
      unfold sigOf
      rw [show numB (cdN 2) 4 = [0, 0, 0, 2] by decide, List.append_assoc]
    rw [e]
    rfl
  · have hd : ([0, 0, 0, (q : Int)] ++ (sigOf id seed q 2 msg ++ (numB ((5 : Nat) : Int) 4 ++ flatX (pathOf id seed 2 q) 5))).drop 4296 = numB ((5 : Nat) : Int) 4 ++ flatX (pathOf id seed 2 q) 5 := by
      rw [← List.append_assoc, List.drop_left' (by rw [List.length_append, length_sigOf]; rfl)]
    rw [show (4299 : Nat) = 4296 + 3 by omega, ← List.getElem?_drop, hd]
    rfl
theorem lsig_path (id seed : List Int) (q : Nat) (msg : List Int) {i : Nat} (hi : i < 5) : ((lsigOf id seed 2 q msg).drop (4300 + 32 * i)).take 32 = pathOf id seed 2 q i := by
  have e : (lsigOf id seed 2 q msg).drop 4300 = flatX (pathOf id seed 2 q) 5 := by
    unfold lsigOf
    rw [List.drop_left' (by rw [List.length_append, List.length_append, length_numB, length_numB, length_sigOf]; rfl)]
  rw [← List.drop_drop, e, flatX_piece (length_pathOf id seed 2 q) hi]
theorem pubL_id {id : List Int} (h16 : id.length = 16) (seed : List Int) (k : Nat) : ((pubL id seed k).drop 8).take 16 = id := vId_pubL h16 seed k

theorem Old.at1 {w : World} {p : Option Addr} {n c : Nat} {xs : List Int} (h : Old w (.slice p n c) xs) (h0 : 0 < xs.length) : ∃ g o, p = some ⟨g, o, none⟩ ∧ n = xs.length ∧ xs.length ≤ c := by
  obtain ⟨g, o, c2, e, hc⟩ := h.at0 h0
  cases e
  exact ⟨g, o, rfl, rfl, hc⟩
/-- contracts over a tree that is made -/
theorem nodeF_any (w : World) (b : Nat) (id seed : List Int) (h16 : id.length = 16) (h32 : seed.length = 32) (k : Nat) (hk : k = 1 ∨ k = 2 ∨ k = 4 ∨ k = 8) (hT : TreeAt w b id seed k) (r : Nat) (h0 : 0 < r) (h64 : r < 64) :
    Calls Try.prog 29 #[.pointer (some ⟨b, 0, none⟩), .int .i64 r] w fun e w' => e = .returned (.tuple #[.agg (u8s (nodeOf id seed k r)).toArray, .int .i64 0]) ∧ Own w w' [] :=
  (lnode_any w b id seed h16 h32 k hk _ (Or.inr rfl) hT.own r h0 h64).mono fun _ _ ⟨h1, h2⟩ => ⟨h1, h2.same hT⟩
theorem pubF_any (w : World) (b : Nat) (id seed : List Int) (h16 : id.length = 16) (h32 : seed.length = 32) (k : Nat) (hk : k = 1 ∨ k = 2 ∨ k = 4 ∨ k = 8) (hT : TreeAt w b id seed k) :
    Calls Try.prog 30 #[.pointer (some ⟨b, 0, none⟩)] w fun e w' => ∃ g o c, e = .returned (.slice (some ⟨g, o, none⟩) 56 c) ∧ 56 ≤ c ∧ Old w' (.slice (some ⟨g, o, none⟩) 56 c) (pubL id seed k) ∧ Own w w' [] :=
  (lpub_any w b id seed h16 h32 k hk _ (Or.inr rfl) hT.own).mono fun _ _ ⟨p, c, h1, h2, _, h3⟩ => by
    have hl := length_pubL h16 seed k
    obtain ⟨g, o, rfl, _, hc⟩ := h2.at1 (by omega)
    exact ⟨g, o, c, h1, by omega, h2, h3.same hT⟩
/-- the first signature of a tree -/
theorem signN_any (w : World) (b : Nat) (id seed : List Int) (h16 : id.length = 16) (h32 : seed.length = 32) (k : Nat) (hk : k = 1 ∨ k = 2 ∨ k = 4 ∨ k = 8) (cs : List Value) (hcs : IsTree id seed k cs) (q : Nat) (hq : q < 32) (mv : Value) (msg : List Int) (hm : Old w mv msg) (hmb : IsBytes msg) (hml : msg.length ≤ 90000)
    (H0 : Own w w [(b, cs, 104)]) (hmne : ∀ k, blk mv = some k → k ≠ b) {n : Nat} (hn : n = sizeOfL k) :
    Calls Try.prog 28 #[.pointer (some ⟨b, 0, none⟩), .int .i64 q, mv] w fun e w' => ∃ g o c, e = .returned (.tuple #[.slice (some ⟨g, o, none⟩) n c, .int .i64 0]) ∧ n ≤ c ∧ Old w' (.slice (some ⟨g, o, none⟩) n c) (lsigOf id seed k q msg) ∧ w.heap.size ≤ g ∧ Own w w' [(b, fullT id seed k, 104)] :=
  (lsign_any w b id seed h16 h32 k hk cs hcs q hq mv msg hm hmb hml H0 hmne hn).mono fun _ _ ⟨p, c, h1, h2, h4, h3⟩ => by
    have hl := length_lsigOf id seed k q msg
    have hs : sizeOfL k = 204 + 32 * chN k := rfl
    obtain ⟨g, o, rfl, _, hc⟩ := h2.at1 (by omega)
    have hc0 : c ≠ 0 := by omega
    exact ⟨g, o, c, h1, by omega, h2, h4 g (by show (if c = 0 then none else some g) = some g; rw [if_neg hc0]), h3⟩

set_option maxRecDepth 100000 in
set_option maxHeartbeats 8000000 in
theorem lmsPaths_row (w : World) (ss : List Int) (h48 : ss.length = 48) (hsb : ∀ i, i < ss.length → 0 ≤ ss[i]?.getD 0 ∧ ss[i]?.getD 0 < 256) (q0 : Int) (_ : IntKind.i64.min ≤ q0) (_ : q0 ≤ IntKind.i64.max)
    (mv : Value) (msg : List Int) (hm : BytesAt w mv msg) (hml : ∀ k, blk mv = some k → k < w.heap.size) (hmb : ∀ i, i < msg.length → 0 ≤ msg[i]?.getD 0 ∧ msg[i]?.getD 0 < 256) :
    Calls Try.prog 7 #[.agg (u8s ss).toArray, .int .i64 q0, mv] w fun e w' => e = .returned (.bool true) ∧ Own w w' [] := by
  rename_i q1 q2
  clear q1 q2
  have H := Own.refl w
  have hO : Old w mv msg := ⟨hm, hml⟩
  obtain ⟨pm, cm, rfl⟩ := hO.shape
  obtain ⟨n, hn⟩ : ∃ n, n = msg.length := ⟨_, rfl⟩
  rw [← hn] at hO ⊢
  have hto := Lib.hid ltold_any
  clear hm hml
  by_cases h30 : 30 < n
  · clear hn hO hmb h48 hsb
    go_enter Try.func7, Try.ntmps7
    have tok1 : True := trivial
    go_wp2_with (first
      | (clear tok1; refine st_new rfl (rn_box (cs := u8s ss) H rfl rfl rfl) ?_; clear H; intro b3 w1 hb3 H; have tok2 : True := trivial)
      | (clear tok2; go_at_call 24; refine (hto.out _).mono ?_; rintro e w2 ⟨rfl, h3⟩; have H2 := H.call0 h3; clear H h3; have H := H2; clear H2; have tok3 : True := trivial))
    have HE := Lib.hid (H.end0 (by simpa using hb3))
    clear H
    go_ret
    exact ⟨rfl, HE.out⟩
  obtain ⟨id, seed, rfl, h16, h32⟩ := split48 h48
  have hidb : IsBytes id := isBytes_left hsb
  have hsz48 := Lib.hid (size_secretL h16 h32)
  obtain ⟨q, hqe, hq⟩ := rem_wrap q0 32 (by omega) (by omega)
  have hq32 : q < 32 := by omega
  have hnw : Hid (∀ w', Calls Try.prog 27 #[.agg (u8s (id ++ seed)).toArray, .int .i64 2] w' fun e w'' => ∃ b, e = .returned (.tuple #[.pointer (some ⟨b, 0, none⟩), .int .i64 0]) ∧ w'.heap.size ≤ b ∧ Own w' w'' [(b, treeG (id ++ seed) 2 0 0 (List.replicate 2048 0) 0, 104)]) := fun w' => lnew_any w' (id ++ seed) h48 2 (by omega)
  have hsg : Hid (∀ w' b, Own w' w' [(b, treeG (id ++ seed) 2 0 0 (List.replicate 2048 0) 0, 104)] → Old w' (.slice pm n cm) msg → (∀ k, blk (Value.slice pm n cm) = some k → k ≠ b) → Calls Try.prog 28 #[.pointer (some ⟨b, 0, none⟩), .int .i64 q, .slice pm n cm] w' fun e w'' => ∃ g o c, e = .returned (.tuple #[.slice (some ⟨g, o, none⟩) 4460 c, .int .i64 0]) ∧ 4460 ≤ c ∧ Old w'' (.slice (some ⟨g, o, none⟩) 4460 c) (lsigOf id seed 2 q msg) ∧ w'.heap.size ≤ g ∧ Own w' w'' [(b, fullT id seed 2, 104)]) := fun w' b h1 h2 h4 =>
    signN_any w' b id seed h16 h32 2 (by omega) _ (Or.inl rfl) q hq32 _ msg h2 hmb (by omega) h1 h4 rfl
  have hnd : Hid (∀ w' b r, TreeAt w' b id seed 2 → 0 < r → r < 64 → Calls Try.prog 29 #[.pointer (some ⟨b, 0, none⟩), .int .i64 (r : Nat)] w' fun e w'' => e = .returned (.tuple #[.agg (u8s (nodeOf id seed 2 r)).toArray, .int .i64 0]) ∧ Own w' w'' []) := fun w' b r h1 h2 h4 => nodeF_any w' b id seed h16 h32 2 (by omega) h1 r h2 h4
  have hpu : Hid (∀ w' b, TreeAt w' b id seed 2 → Calls Try.prog 30 #[.pointer (some ⟨b, 0, none⟩)] w' fun e w'' => ∃ g o c, e = .returned (.slice (some ⟨g, o, none⟩) 56 c) ∧ 56 ≤ c ∧ Old w'' (.slice (some ⟨g, o, none⟩) 56 c) (pubL id seed 2) ∧ Own w' w'' []) := fun w' b h => pubF_any w' b id seed h16 h32 2 (by omega) h
  have hNl : Hid (∀ r, (nodeOf id seed 2 r).length = 32) := length_nodeOf id seed 2
  have hNb : Hid (∀ r, IsBytes (nodeOf id seed 2 r)) := isBytes_nodeOf id seed 2
  obtain ⟨f0, f1, f2, f3, f4, f5⟩ := lsig_bytes id seed hq32 msg
  have hpath : Hid (∀ i, i < 5 → ((lsigOf id seed 2 q msg).drop (4300 + 32 * i)).take 32 = nodeOf id seed 2 (sibN ((q + 32) / 2 ^ i))) := fun i hi => lsig_path id seed q msg hi
  have hll : Hid ((lsigOf id seed 2 q msg).length = 4460) := length_lsigOf id seed 2 q msg
  have hpl : Hid ((pubL id seed 2).length = 56) := length_pubL h16 seed 2
  have hpr : Hid ((pubL id seed 2).drop 24 = nodeOf id seed 2 1) := root_pubL h16 seed 2
  have hpi : Hid (((pubL id seed 2).drop 8).take 16 = id) := pubL_id h16 seed 2
  obtain ⟨N, hN⟩ : ∃ N, N = nodeOf id seed 2 := ⟨_, rfl⟩
  obtain ⟨sg, hsg0⟩ : ∃ s, s = lsigOf id seed 2 q msg := ⟨_, rfl⟩
  obtain ⟨pb, hpb0⟩ : ∃ s, s = pubL id seed 2 := ⟨_, rfl⟩
  simp only [← hN] at hnd hNl hNb hpath hpr
  rw [← hsg0] at hsg f0 f1 f2 f3 f4 f5 hpath hll
  rw [← hpb0] at hpu hpl hpr hpi
  have hOw := Lib.hid hO
  have hcel : Hid (∀ w' g o c j z, Old w' (.slice (some ⟨g, o, none⟩) 4460 c) sg → sg[j]? = some z → w'.cell? ⟨g, o + j, none⟩ = some (.int .u8 z)) := fun w' g o c j z h1 h2 => bytes_cellV h1.1 j _ (by rw [show u8s sg = sg.map (Value.int .u8) from rfl, List.getElem?_map, h2]; rfl)
  have f0' := Lib.hid f0
  have f1' := Lib.hid f1
  have f2' := Lib.hid f2
  have f3' := Lib.hid f3
  have f4' := Lib.hid f4
  have f5' := Lib.hid f5
  have h16' := Lib.hid h16
  have hidb' := Lib.hid hidb
  clear f0 f1 f2 f3 f4 f5 hN hsg0 hpb0 hO hmb hn h16 h32 h48 hsb hidb
  go_enter Try.func7, Try.ntmps7
  have tok1 : True := trivial
  go_wp2_with (first
    | (clear tok1; refine st_new rfl (rn_box (cs := u8s (id ++ seed)) H rfl rfl rfl) ?_; clear H; intro b3 w1 hb3 H; have tok2 : True := trivial)
    | (clear tok2; refine st_val rfl (rn_loadAll (cs := u8s (id ++ seed)) H rfl rfl (.head _) rfl rfl hsz48.out) ?_; have tok3 : True := trivial)
    | (clear tok3; go_at_call 27; refine (hnw.out _).mono ?_; rintro e w2 ⟨bt, rfl, hbt, h3⟩; have hbt0 := Nat.le_trans H.size hbt; have H2 := H.callNew h3 hbt; have M2 := Lib.hid (hOw.out.mv H2 (by simp; omega)); have MN : ∀ k, blk (Value.slice pm n cm) = some k → k ≠ bt := (fun k hk => by have := hOw.out.2 k hk; omega); clear H h3; have H := H2; clear H2; have tok4 : True := trivial)
    | (clear tok4; go_at_call 28; refine (hsg.out _ bt (H.sub1 (.head _)) M2.out MN).mono ?_; rintro e w5 ⟨ag, ao, ac, rfl, hac, hA, hag, h3⟩; have H2 := Own.next (L := [_]) H h3 rfl; have A5 := Lib.hid hA; have T5 := Lib.hid (TreeAt.of h3); have HW := Lib.hid H2; have S3 := Lib.hid (fun (w' : World) (h : Own w5 w' []) => show BIn id w' (.slice (some ⟨b3, 0, none⟩) 16 16) from (H2.call0 h).binAt (.tail _ (.head _)) (fun j v hj => by rw [Nat.zero_add, u8s_app, List.getElem?_append_left (List.getElem?_eq_some_iff.1 hj).1]; exact hj) h16'.out.symm (by omega)); clear H h3 hA MN M2 H2; have H := Own.refl w5; have tok5 : True := trivial)
    | (clear tok5; refine st_valG rfl (rn_cell rfl rfl rfl rfl (hcel.out _ _ _ _ 0 _ A5.out f0'.out)) ?_; have tok6 : True := trivial)
    | (clear tok6; refine st_valG rfl (rn_cell rfl rfl rfl rfl (hcel.out _ _ _ _ 1 _ A5.out f1'.out)) ?_; have tok7 : True := trivial)
    | (clear tok7; refine st_valG rfl (rn_cell rfl rfl rfl rfl (hcel.out _ _ _ _ 2 _ A5.out f2'.out)) ?_; have tok8 : True := trivial)
    | (clear tok8; refine st_valG rfl (rn_cell rfl rfl rfl rfl (hcel.out _ _ _ _ 3 _ A5.out f3'.out)) ?_; have tok9 : True := trivial)
    | (clear tok9; refine st_valG rfl (rn_cell rfl rfl rfl rfl (hcel.out _ _ _ _ 7 _ A5.out f4'.out)) ?_; have tok10 : True := trivial)
    | (clear tok10; refine st_valG rfl (rn_cell rfl rfl rfl rfl (hcel.out _ _ _ _ 4299 _ A5.out f5'.out)) ?_; have tok11 : True := trivial))
  clear hsg hnw f0' f1' f2' f3' f4' f5' hcel
  go_loopw [12, 13, 14, 15] (fun v12 v13 _ _ wr => ∃ i : Nat, i ≤ 5 ∧ v13 = .int .i64 ((i : Nat) : Int) ∧ v12 = .int .i64 (((q + 32) / 2 ^ i : Nat) : Int) ∧ Own w5 wr []) (fun _ v13 _ _ _ => ((5 : Nat) - intOf v13).toNat)
  case atStart => exact ⟨0, by omega, rfl, by rw [Nat.pow_zero, Nat.div_one]; rfl, H⟩
  case round =>
    clear H
    obtain ⟨i, hi, rfl, rfl, H⟩ := hrel
    by_cases hin : i < 5
    · obtain ⟨g1, g2, g3⟩ := path_r hq32 hin
      have hx := xor_one _ g2
      obtain ⟨g4, g5⟩ := sibN_lt g1 g2
      have hp1 := Lib.hid (hpath.out i hin)
      obtain ⟨m, hm0⟩ : ∃ m, m = (q + 32) / 2 ^ i := ⟨_, rfl⟩
      rw [← hm0] at g1 g2 g3 hx g4 g5 hp1 ⊢
      have g3' := Lib.hid g3
      have hn1 := Lib.hid (fun w' (h : TreeAt w' bt id seed 2) => hnd.out w' bt (sibN m) h g4 g5)
      have hl1 := Lib.hid (hNl.out (sibN m))
      have hb1 := Lib.hid (hNb.out (sibN m))
      obtain ⟨X, hX⟩ : ∃ x, x = N (sibN m) := ⟨_, rfl⟩
      obtain ⟨sb, hsb0⟩ : ∃ x, x = sibN m := ⟨_, rfl⟩
      rw [← hsb0] at hx hn1 hX hl1 hb1 hp1
      rw [← hX] at hn1 hl1 hb1 hp1
      clear g3 g4 g5 hX hsb0 hm0
      have HR := Lib.hid H
      clear H
      have H := Own.refl wr
      have tok1 : True := trivial
      go_wp2_with (first
        | (clear tok1; go_at_call 29; refine (hn1.out _ (T5.out.mv (HR.out.trans H) (by simp))).mono ?_; rintro e w6 ⟨rfl, h3⟩; have H2 := H.call0 h3; clear H h3; have H := H2; clear H2; have tok2 : True := trivial)
        | (clear tok2; refine st_new rfl (rn_alloc H rfl info_hash) ?_; clear H; intro b14 w7 hb14 H; have tok3 : True := trivial)
        | (clear tok3; refine st_skip rfl (rn_storeAll (vs := u8s X) H rfl rfl rfl (size_hashL hl1.out) .head (by rw [length_ints, length_ints, hl1.out]; rfl) (oneCell_ints _ _)) ?_; clear H; intro w8 H; have tok4 : True := trivial))
      have H8 := Lib.hid H
      have a8 : Hid (∀ w', Own w8 w' [] → Old w' (.slice (some ⟨ag, ao + (4300 + 32 * i), none⟩) 32 (ac - (4300 + 32 * i))) X) := fun w' h => by
        have h1 := (A5.out.mv (HR.out.trans ((H8.out.call0 h).end0 (by simpa using hb14))) (by simp)).part (l := 4300 + 32 * i) (m := 32) (d := ac - (4300 + 32 * i)) (by rw [hll.out]) (by omega) (by omega) (by omega)
        rw [hp1.out] at h1
        exact h1
      have x8 : Hid (∀ w', Own w8 w' [] → BIn X w' (.slice (some ⟨b14, 0, none⟩) 32 32)) := fun w' h => (H8.out.call0 h).binAt (.head _) (fun j v hj => by rw [Nat.zero_add]; exact hj) hl1.out.symm (by omega)
      have hsm : Hid (∀ w', Own w8 w' [] → Calls Try.prog 19 #[.slice (some ⟨ag, ao + (4300 + 32 * i), none⟩) 32 (ac - (4300 + 32 * i)), .slice (some ⟨b14, 0, none⟩) 32 32] w' fun e w'' => e = .returned (.bool true) ∧ Own w' w'' []) := fun w' h => by
        have h1 := same_any w' _ _ X X (a8.out w' h).1 (x8.out w' h).2.1 hb1.out hb1.out
        rw [decide_eq_true rfl] at h1
        exact h1
      clear H
      refine region_grow 15 (by kernel_rfl) (by kernel_rfl) (by kernel_rfl) [.val (.int .i64 0), .val (.bool false), .val (.bool false), .val (.slice (some ⟨ag, ao, none⟩) 4460 ac), .val (.int .i64 i), .val (.int .i64 (32 * (i : Int))), .val (.int .i64 (4300 + 32 * (i : Int))), .val (.int .i64 i), .val (.int .i64 (32 * (i : Int))), .val (.int .i64 (4332 + 32 * (i : Int))), .val (.slice (some ⟨ag, ao + (4300 + 32 * i), none⟩) 32 (ac - (4300 + 32 * i))), .val (.slice (some ⟨b14, 0, none⟩) 32 32), .val (.bool true), .val (.bool false), .val (.bool false)] rfl ?_
      have tok3 : True := trivial
      try go_frame
      repeat (first
        | (clear tok3; refine sp_run (v := .slice (some ⟨ag, ao + (4300 + 32 * i), none⟩) 32 (ac - (4300 + 32 * i))) rfl (fun w' hw' _ => rn_part (l := 4300 + 32 * i) (h := 4332 + 32 * i) rfl rfl size_u8 rfl (by exact .yes (by omega)) (by exact .yes (by omega)) (by omega) (by omega) hac (by omega) rfl) ?_; try go_frame; have tok4 : True := trivial)
        | (clear tok4; refine sp_run (v := .slice (some ⟨b14, 0, none⟩) 32 32) rfl (fun w' hw' _ => rn_sliceAll rfl rfl size_u8 rfl (by omega)) ?_; try go_frame; have tok5 : True := trivial)
        | (clear tok5; refine sp_callN (v := .bool true) (args := #[.slice (some ⟨ag, ao + (4300 + 32 * i), none⟩) 32 (ac - (4300 + 32 * i)), .slice (some ⟨b14, 0, none⟩) 32 32]) rfl rfl (by simp [Act.eval]) Try.func19 (by kernel_rfl) (by kernel_rfl) (fun w' hw' _ => hsm.out w' hw') ?_; try go_frame; have tok6 : True := trivial)
        | (refine sp_val (fun w' hw' hF => ?_) ⟨_, rfl, Nat.le_of_ble_eq_true rfl⟩ ?_
           · go_big_quiet_step (fail)
             exact rfl
           try go_frame))
      refine sp_nil ?_
      intro w9 hw' hF
      have H := Lib.hid (HR.out.trans ((H8.out.call0 hw').end0 (by simpa using hb14)))
      clear hw' hF a8 x8 hsm H8
      simp only [List.drop_succ_cons, List.drop_zero]
      go_wp2_with fail
      refine ⟨⟨i + 1, by omega, by go_num, ?_, H.out⟩, by simp [intOf]; omega⟩
      rw [← g3'.out]; go_num
    · obtain rfl : i = 5 := by omega
      have hend := path_end hq32
      rw [hend]
      clear hend hpath
      have hn1 := Lib.hid (fun w' (h : TreeAt w' bt id seed 2) => hnd.out w' bt 1 h (by omega) (by omega))
      have hl1 := Lib.hid (hNl.out 1)
      have hb1 := Lib.hid (hNb.out 1)
      obtain ⟨X, hX⟩ : ∃ x, x = N 1 := ⟨_, rfl⟩
      rw [← hX] at hn1 hl1 hb1 hpr
      clear hX hnd hNl hNb
      have HR := Lib.hid H
      clear H
      have H := Own.refl wr
      have tok1 : True := trivial
      go_wp2_with (first
        | (clear tok1; go_at_call 29; refine (hn1.out _ (T5.out.mv (HR.out.trans H) (by simp))).mono ?_; rintro e w6 ⟨rfl, h3⟩; have H2 := H.call0 h3; clear H h3; have H := H2; clear H2; have tok2 : True := trivial)
        | (clear tok2; refine st_new rfl (rn_alloc H rfl info_hash) ?_; clear H; intro b16 w7 hb16 H; have tok3 : True := trivial)
        | (clear tok3; refine st_skip rfl (rn_storeAll (vs := u8s X) H rfl rfl rfl (size_hashL hl1.out) .head (by rw [length_ints, length_ints, hl1.out]; rfl) (oneCell_ints _ _)) ?_; clear H; intro w8 H; have tok4 : True := trivial)
        | (clear tok4; go_at_call 30; refine (hpu.out _ bt (T5.out.mv (HR.out.trans (H.end0 (by simpa using hb16))) (by simp))).mono ?_; rintro e w9 ⟨pg, po, pc, rfl, hpc, hP, h3⟩; have P9 := Lib.hid hP; have H2 := H.call0 h3; clear H h3 hP; have H := H2; clear H2; have tok5 : True := trivial))
      have H9 := Lib.hid H
      have x9 : Hid (∀ w', Own w9 w' [] → BIn X w' (.slice (some ⟨b16, 0, none⟩) 32 32)) := fun w' h => (H9.out.call0 h).binAt (.head _) (fun j v hj => by rw [Nat.zero_add]; exact hj) hl1.out.symm (by omega)
      have hsm1 : Hid (∀ w', Own w9 w' [] → Calls Try.prog 19 #[.slice (some ⟨pg, po + 24, none⟩) 32 (pc - 24), .slice (some ⟨b16, 0, none⟩) 32 32] w' fun e w'' => e = .returned (.bool true) ∧ Own w' w'' []) := fun w' h => by
        have h0 := (P9.out.mv h (by simp)).part (l := 24) (m := 32) (d := pc - 24) (by rw [hpl.out]) (by omega) (by omega) (by omega)
        rw [hpr.out, List.take_of_length_le (by rw [hl1.out]; omega)] at h0
        have h1 := same_any w' _ _ X X h0.1 (x9.out w' h).2.1 hb1.out hb1.out
        rw [decide_eq_true rfl] at h1
        exact h1
      have hsm2 : Hid (∀ w', Own w9 w' [] → Calls Try.prog 19 #[.slice (some ⟨pg, po + 8, none⟩) 16 (pc - 8), .slice (some ⟨b3, 0, none⟩) 16 16] w' fun e w'' => e = .returned (.bool true) ∧ Own w' w'' []) := fun w' h => by
        have h0 := (P9.out.mv h (by simp)).part (l := 8) (m := 16) (d := pc - 8) (by rw [hpl.out]) (by omega) (by omega) (by omega)
        rw [hpi.out] at h0
        have h1 := same_any w' _ _ id id h0.1 (S3.out w' (HR.out.trans ((H9.out.call0 h).end0 (by simpa using hb16)))).2.1 hidb'.out hidb'.out
        rw [decide_eq_true rfl] at h1
        exact h1
      clear H
      refine region_grow 27 (by kernel_rfl) (by kernel_rfl) (by kernel_rfl) [.val (.bool true), .val (.bool true), .val (.int .i64 1), .val (.bool true), .val (.bool true), .val (.bool true), .val (.int .i64 0), .val (.bool true), .val (.bool true), .val (.bool true), .val (.slice (some ⟨pg, po, none⟩) 56 pc), .val (.int .i64 56), .val (.bool true), .val (.bool true), .val (.bool true), .val (.slice (some ⟨pg, po, none⟩) 56 pc), .val (.slice (some ⟨pg, po + 24, none⟩) 32 (pc - 24)), .val (.slice (some ⟨b16, 0, none⟩) 32 32), .val (.bool true), .val (.bool true), .val (.bool true), .val (.slice (some ⟨pg, po, none⟩) 56 pc), .val (.slice (some ⟨pg, po + 8, none⟩) 16 (pc - 8)), .val (.pointer (some ⟨b3, 0, none⟩)), .val (.slice (some ⟨b3, 0, none⟩) 16 16), .val (.bool true), .val (.bool true)] rfl ?_
      have tok3 : True := trivial
      try go_frame
      repeat (first
        | (clear tok3; refine sp_callN (v := .bool true) (args := #[]) rfl rfl (by simp ) Try.func24 (by kernel_rfl) (by kernel_rfl) (fun w' _ _ => hto.out w') ?_; try go_frame; have tok4 : True := trivial)
        | (clear tok4; refine sp_run (v := .slice (some ⟨pg, po + 24, none⟩) 32 (pc - 24)) rfl (fun w' hw' _ => rn_part (l := 24) (h := 56) rfl rfl size_u8 rfl (by exact .yes rfl) (by exact .no _) (by omega) (by omega) hpc rfl rfl) ?_; try go_frame; have tok5 : True := trivial)
        | (clear tok5; refine sp_run (v := .slice (some ⟨b16, 0, none⟩) 32 32) rfl (fun w' hw' _ => rn_sliceAll rfl rfl size_u8 rfl (by omega)) ?_; try go_frame; have tok6 : True := trivial)
        | (clear tok6; refine sp_callN (v := .bool true) (args := #[.slice (some ⟨pg, po + 24, none⟩) 32 (pc - 24), .slice (some ⟨b16, 0, none⟩) 32 32]) rfl rfl (by simp [Act.eval]) Try.func19 (by kernel_rfl) (by kernel_rfl) (fun w' hw' _ => hsm1.out w' hw') ?_; try go_frame; have tok7 : True := trivial)
        | (clear tok7; refine sp_run (v := .slice (some ⟨pg, po + 8, none⟩) 16 (pc - 8)) rfl (fun w' hw' _ => rn_part (l := 8) (h := 24) rfl rfl size_u8 rfl (by exact .yes rfl) (by exact .yes rfl) (by omega) (by omega) hpc rfl rfl) ?_; try go_frame; have tok8 : True := trivial)
        | (clear tok8; refine sp_run (v := .slice (some ⟨b3, 0, none⟩) 16 16) rfl (fun w' hw' _ => rn_sliceAll rfl rfl size_u8 rfl (by omega)) ?_; try go_frame; have tok9 : True := trivial)
        | (clear tok9; refine sp_callN (v := .bool true) (args := #[.slice (some ⟨pg, po + 8, none⟩) 16 (pc - 8), .slice (some ⟨b3, 0, none⟩) 16 16]) rfl rfl (by simp [Act.eval]) Try.func19 (by kernel_rfl) (by kernel_rfl) (fun w' hw' _ => hsm2.out w' hw') ?_; try go_frame; have tok10 : True := trivial)
        | (refine sp_val (fun w' hw' hF => ?_) ⟨_, rfl, Nat.le_of_ble_eq_true rfl⟩ ?_
           · go_big_quiet_step (fail)
             exact rfl
           try go_frame))
      refine sp_nil ?_
      intro w10 hw' hF
      have HE := Lib.hid ((HW.out.end0 (by simp; omega)).trans (HR.out.trans ((H9.out.call0 hw').end0 (by simpa using hb16))))
      clear hw' hF x9 hsm1 hsm2 H9
      simp only [List.drop_succ_cons, List.drop_zero]
      go_wp2_with fail
      go_ret
      exact ⟨rfl, HE.out⟩

end Go.Proofs.Ytfihlmnbonnekaa
