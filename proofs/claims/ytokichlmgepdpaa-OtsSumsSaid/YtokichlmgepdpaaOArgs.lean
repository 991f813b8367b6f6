/- chirographlaw3.OtsArgs: the walk. -/
import Derived.Test.YtokichlmgepdpaaOTold2
import Derived.Test.YtokichlmgepdpaaRefQ
namespace Go.Proofs.Ytokichlmgepdpaa
open Go.RowKit

section
variable {P : Program} {ops : Array Oper} {rest : List Oper} {o : Oper} {a : Act} {w : World} {Q : Exit → Act → World → Prop}
theorem st_valG (hw : Region.wanted o (yielded ops a.tmps) = true) {v : Value} (hrun : (execOp a.eval o).run P w = .ok (.value v) w) (h : wpList P ops Q rest (a.put o.dst v) w) : wpList P ops Q (o :: rest) a w :=
  BigFrame.wpList_want hw fun K hK => by unfold Oper.wp; rw [hrun, Oper.upon_value]; exact hK _ _ h
end

theorem split48 {xs : List Int} (h : xs.length = 48) : ∃ id seed : List Int, xs = id ++ seed ∧ id.length = 16 ∧ seed.length = 32 := ⟨xs.take 16, xs.drop 16, (List.take_append_drop 16 xs).symm, by rw [List.length_take]; omega, by rw [List.length_drop]; omega⟩

set_option maxRecDepth 100000 in
set_option maxHeartbeats 4000000 in
theorem otsArgs_row (w : World) (ss : List Int) (h48 : ss.length = 48) (_ : ∀ i, i < ss.length → 0 ≤ ss[i]?.getD 0 ∧ ss[i]?.getD 0 < 256) (q : Int) (_ : IntKind.i64.min ≤ q) (_ : q ≤ IntKind.i64.max) (x : Int) (_ : IntKind.i64.min ≤ x) (_ : x ≤ IntKind.i64.max)
    (mv : Value) (msg : List Int) (hm : BytesAt w mv msg) (hml : ∀ k, blk mv = some k → k < w.heap.size) (_ : ∀ i, i < msg.length → 0 ≤ msg[i]?.getD 0 ∧ msg[i]?.getD 0 < 256) :
    Calls Try.prog 7 #[.agg (u8s ss).toArray, .int .i64 q, .int .i64 x, mv] w fun e w' => e = .returned (.bool true) ∧ Own w w' [] := by
  rename_i q1 q2 q3 q4 q5 q6
  clear q1 q2 q3 q4 q5 q6
  have H := Own.refl w
  have hO : Old w mv msg := ⟨hm, hml⟩
  obtain ⟨pm, cm, rfl⟩ := hO.shape
  obtain ⟨n, hn⟩ : ∃ n, n = msg.length := ⟨_, rfl⟩
  rw [← hn]
  obtain ⟨id, seed, rfl, h16, h32⟩ := split48 h48
  have hsz := Lib.hid (size_idL h16)
  have hsz48 := Lib.hid (size_secretL h16 h32)
  have hto := Lib.hid otold_any
  have hch : Hid (∀ w', Calls Try.prog 15 #[.int .i64 x] w' fun e w'' => e = .returned (.int .i64 (chainsOf x)) ∧ Own w' w'' []) := fun w' => chains_any w' x
  have hpb : Hid (mayB q x = false → ∀ w', Calls Try.prog 17 #[.agg (u8s (id ++ seed)).toArray, .int .i64 q, .int .i64 x] w' fun e w'' => e = .returned (.tuple #[.agg (u8s (List.replicate 32 0)).toArray, .int .i64 1]) ∧ Own w' w'' []) := fun h w' => pub_bad w' _ q x h
  have hsb : Hid (mayB q x = false → ∀ w', Calls Try.prog 16 #[.agg (u8s (id ++ seed)).toArray, .int .i64 q, .int .i64 x, .slice pm n cm] w' fun e w'' => e = .returned (.tuple #[.slice none 0 0, .int .i64 1]) ∧ Own w' w'' []) := fun h w' => sign_bad w' _ q x _ h
  have hcb : Hid (mayB q x = false → ∀ w', Calls Try.prog 18 #[.agg (u8s id).toArray, .int .i64 q, .int .i64 x, .slice pm n cm, .slice none 0 0] w' fun e w'' => e = .returned (.tuple #[.agg (u8s (List.replicate 32 0)).toArray, .int .i64 1]) ∧ Own w' w'' []) := fun h w' => cand_bad w' _ q x _ _ h
  have hpos := Lib.hid (chainsOf_pos x)
  have hle := Lib.hid (chainsOf_le x)
  obtain ⟨cx, hcx⟩ : ∃ c, c = chainsOf x := ⟨_, rfl⟩
  rw [← hcx] at hch hpos hle
  have eZ : ∀ w, (Op.equalIn 10000 23 (.agg (u8s [0, 0, 0, 0, 0, 0, 0, 0, 0, 0, 0, 0, 0, 0, 0, 0, 0, 0, 0, 0, 0, 0, 0, 0, 0, 0, 0, 0, 0, 0, 0, 0]).toArray) (.agg #[.int .u8 0, .int .u8 0, .int .u8 0, .int .u8 0, .int .u8 0, .int .u8 0, .int .u8 0, .int .u8 0, .int .u8 0, .int .u8 0, .int .u8 0, .int .u8 0, .int .u8 0, .int .u8 0, .int .u8 0, .int .u8 0, .int .u8 0, .int .u8 0, .int .u8 0, .int .u8 0, .int .u8 0, .int .u8 0, .int .u8 0, .int .u8 0, .int .u8 0, .int .u8 0, .int .u8 0, .int .u8 0, .int .u8 0, .int .u8 0, .int .u8 0, .int .u8 0])).run Try.prog w = .ok true w := fun w => by have h := eqHash w (List.replicate 32 0) (List.replicate 32 0) (by simp) (by simp); rw [decide_eq_true rfl] at h; exact h
  clear hcx hm hml hO hn h48 h16 h32
  by_cases hbig : 100 < n
  · go_enter Try.func7, Try.ntmps7
    go_wp2_with (first
      | (refine st_new rfl (rn_box (cs := u8s (id ++ seed)) H rfl rfl rfl) ?_; clear H; intro b4 w1 hb4 H)
      | (go_at_call 14; refine (hto.out _).mono ?_; rintro e w2 ⟨rfl, h3⟩; have H2 := H.call0 h3; clear H h3; have H := H2; clear H2))
    have h1 := Lib.hid (H.end0 (by simpa using hb4))
    go_ret
    exact ⟨rfl, h1.out⟩
  · have hbig' : n ≤ 100 := by omega
    clear hbig
    by_cases h0 : 0 ≤ q
    · by_cases h1 : q < 32
      · by_cases hc : 0 < cx
        · go_enter Try.func7, Try.ntmps7
          go_wp2_with (first
            | (refine st_new rfl (rn_box (cs := u8s (id ++ seed)) H rfl rfl rfl) ?_; clear H; intro b4 w1 hb4 H)
            | (go_at_call 15; refine (hch.out _).mono ?_; rintro e w2 ⟨rfl, h3⟩; have H2 := H.call0 h3; clear H h3; have H := H2; clear H2)
            | (go_at_call 14; refine (hto.out _).mono ?_; rintro e w3 ⟨rfl, h3⟩; have H2 := H.call0 h3; clear H h3; have H := H2; clear H2))
          have h1 := Lib.hid (H.end0 (by simpa using hb4))
          go_ret
          exact ⟨rfl, h1.out⟩
        · have hb : mayB q x = false := by unfold mayB; rw [← hpos.out, decide_eq_false hc]; simp
          have hc0 : cx = 0 := by have := hle.out.1; omega
          subst hc0
          have hp1 := Lib.hid (hpb.out hb)
          have hs1 := Lib.hid (hsb.out hb)
          have hc1 := Lib.hid (hcb.out hb)
          clear hb hpb hsb hcb hpos hle
          go_enter Try.func7, Try.ntmps7
          have tok1 : True := trivial
          go_wp2_with (first
            | (clear tok1; refine st_new rfl (rn_box (cs := u8s (id ++ seed)) H rfl rfl rfl) ?_; clear H; intro b4 w1 hb4 H; have tok2 : True := trivial)
            | (go_at_call 15; refine (hch.out _).mono ?_; rintro e w2 ⟨rfl, h3⟩; have H2 := H.call0 h3; clear H h3; have H := H2; clear H2)
            | (clear tok2; refine st_val rfl (rn_loadAll (cs := u8s (id ++ seed)) H rfl rfl (.head _) rfl rfl hsz48.out) ?_; have tok3 : True := trivial)
            | (clear tok3; go_at_call 17; refine (hp1.out _).mono ?_; rintro e w3 ⟨rfl, h3⟩; have H2 := H.call0 h3; clear H h3; have H := H2; clear H2; have tok4 : True := trivial)
            | (clear tok4; refine st_new rfl (rn_alloc H rfl info_hash) ?_; clear H; intro b9 w4 hb9 H; have tok5 : True := trivial)
            | (clear tok5; refine st_skip rfl (rn_storeAll (vs := u8s (List.replicate 32 0)) H rfl rfl rfl (by kernel_rfl) .head (by kernel_rfl) (oneCell_ints _ _)) ?_; clear H; intro w5 H; have tok6 : True := trivial)
            | (clear tok6; refine st_val rfl (rn_loadAll (cs := u8s (id ++ seed)) H rfl rfl (.tail _ (.head _)) rfl rfl hsz48.out) ?_; have tok7 : True := trivial)
            | (clear tok7; go_at_call 16; refine (hs1.out _).mono ?_; rintro e w6 ⟨rfl, h3⟩; have H2 := H.call0 h3; clear H h3; have H := H2; clear H2; have tok8 : True := trivial)
            | (clear tok8; refine st_val rfl (rn_cells rfl rfl rfl rfl hsz.out (fun j v hj => H.rowL (.tail _ (.head _)) j v hj)) ?_; have tok9 : True := trivial)
            | (clear tok9; go_at_call 18; refine (hc1.out _).mono ?_; rintro e w7 ⟨rfl, h3⟩; have H2 := H.call0 h3; clear H h3; have H := H2; clear H2; have tok10 : True := trivial)
            | (clear tok10; refine st_new rfl (rn_alloc H rfl info_hash) ?_; clear H; intro b13 w8 hb13 H; have tok11 : True := trivial)
            | (clear tok11; refine st_skip rfl (rn_storeAll (vs := u8s (List.replicate 32 0)) H rfl rfl rfl (by kernel_rfl) .head (by kernel_rfl) (oneCell_ints _ _)) ?_; clear H; intro w9 H; have tok12 : True := trivial)
            | (clear tok12; go_at_call 14; refine (hto.out _).mono ?_; rintro e w10 ⟨rfl, h3⟩; have H2 := H.call0 h3; clear H h3; have H := H2; clear H2; have tok13 : True := trivial)
            | (clear tok13; refine st_valG rfl (rn_loadAll (cs := u8s (List.replicate 32 0)) H rfl rfl (.tail _ (.head _)) rfl rfl (by kernel_rfl)) ?_; have tok14 : True := trivial)
            | (clear tok14; refine st_valG rfl (rn_loadAll (cs := u8s (List.replicate 32 0)) H rfl rfl (.head _) rfl rfl (by kernel_rfl)) ?_))
          have h1 := Lib.hid (H.end0 (by simp; omega))
          go_ret
          exact ⟨rfl, h1.out⟩
      · have hb : mayB q x = false := by unfold mayB; rw [decide_eq_false h1]; simp
        have h2 : 32 ≤ q := by omega
        have hp1 := Lib.hid (hpb.out hb)
        have hs1 := Lib.hid (hsb.out hb)
        have hc1 := Lib.hid (hcb.out hb)
        clear hb hpb hsb hcb hpos hle
        go_enter Try.func7, Try.ntmps7
        have tok1 : True := trivial
        go_wp2_with (first
          | (clear tok1; refine st_new rfl (rn_box (cs := u8s (id ++ seed)) H rfl rfl rfl) ?_; clear H; intro b4 w1 hb4 H; have tok2 : True := trivial)
          | (go_at_call 15; refine (hch.out _).mono ?_; rintro e w2 ⟨rfl, h3⟩; have H2 := H.call0 h3; clear H h3; have H := H2; clear H2)
          | (clear tok2; refine st_val rfl (rn_loadAll (cs := u8s (id ++ seed)) H rfl rfl (.head _) rfl rfl hsz48.out) ?_; have tok3 : True := trivial)
          | (clear tok3; go_at_call 17; refine (hp1.out _).mono ?_; rintro e w3 ⟨rfl, h3⟩; have H2 := H.call0 h3; clear H h3; have H := H2; clear H2; have tok4 : True := trivial)
          | (clear tok4; refine st_new rfl (rn_alloc H rfl info_hash) ?_; clear H; intro b9 w4 hb9 H; have tok5 : True := trivial)
          | (clear tok5; refine st_skip rfl (rn_storeAll (vs := u8s (List.replicate 32 0)) H rfl rfl rfl (by kernel_rfl) .head (by kernel_rfl) (oneCell_ints _ _)) ?_; clear H; intro w5 H; have tok6 : True := trivial)
          | (clear tok6; refine st_val rfl (rn_loadAll (cs := u8s (id ++ seed)) H rfl rfl (.tail _ (.head _)) rfl rfl hsz48.out) ?_; have tok7 : True := trivial)
          | (clear tok7; go_at_call 16; refine (hs1.out _).mono ?_; rintro e w6 ⟨rfl, h3⟩; have H2 := H.call0 h3; clear H h3; have H := H2; clear H2; have tok8 : True := trivial)
          | (clear tok8; refine st_val rfl (rn_cells rfl rfl rfl rfl hsz.out (fun j v hj => H.rowL (.tail _ (.head _)) j v hj)) ?_; have tok9 : True := trivial)
          | (clear tok9; go_at_call 18; refine (hc1.out _).mono ?_; rintro e w7 ⟨rfl, h3⟩; have H2 := H.call0 h3; clear H h3; have H := H2; clear H2; have tok10 : True := trivial)
          | (clear tok10; refine st_new rfl (rn_alloc H rfl info_hash) ?_; clear H; intro b13 w8 hb13 H; have tok11 : True := trivial)
          | (clear tok11; refine st_skip rfl (rn_storeAll (vs := u8s (List.replicate 32 0)) H rfl rfl rfl (by kernel_rfl) .head (by kernel_rfl) (oneCell_ints _ _)) ?_; clear H; intro w9 H; have tok12 : True := trivial)
          | (clear tok12; go_at_call 14; refine (hto.out _).mono ?_; rintro e w10 ⟨rfl, h3⟩; have H2 := H.call0 h3; clear H h3; have H := H2; clear H2; have tok13 : True := trivial)
          | (clear tok13; refine st_valG rfl (rn_loadAll (cs := u8s (List.replicate 32 0)) H rfl rfl (.tail _ (.head _)) rfl rfl (by kernel_rfl)) ?_; have tok14 : True := trivial)
          | (clear tok14; refine st_valG rfl (rn_loadAll (cs := u8s (List.replicate 32 0)) H rfl rfl (.head _) rfl rfl (by kernel_rfl)) ?_))
        have h1 := Lib.hid (H.end0 (by simp; omega))
        go_ret
        exact ⟨rfl, h1.out⟩
    · have hb : mayB q x = false := by unfold mayB; rw [decide_eq_false h0]; simp
      have h2 : q < 0 := by omega
      have hp1 := Lib.hid (hpb.out hb)
      have hs1 := Lib.hid (hsb.out hb)
      have hc1 := Lib.hid (hcb.out hb)
      clear hb hpb hsb hcb hpos hle
      go_enter Try.func7, Try.ntmps7
      have tok1 : True := trivial
      go_wp2_with (first
        | (clear tok1; refine st_new rfl (rn_box (cs := u8s (id ++ seed)) H rfl rfl rfl) ?_; clear H; intro b4 w1 hb4 H; have tok2 : True := trivial)
        | (go_at_call 15; refine (hch.out _).mono ?_; rintro e w2 ⟨rfl, h3⟩; have H2 := H.call0 h3; clear H h3; have H := H2; clear H2)
        | (clear tok2; refine st_val rfl (rn_loadAll (cs := u8s (id ++ seed)) H rfl rfl (.head _) rfl rfl hsz48.out) ?_; have tok3 : True := trivial)
        | (clear tok3; go_at_call 17; refine (hp1.out _).mono ?_; rintro e w3 ⟨rfl, h3⟩; have H2 := H.call0 h3; clear H h3; have H := H2; clear H2; have tok4 : True := trivial)
        | (clear tok4; refine st_new rfl (rn_alloc H rfl info_hash) ?_; clear H; intro b9 w4 hb9 H; have tok5 : True := trivial)
        | (clear tok5; refine st_skip rfl (rn_storeAll (vs := u8s (List.replicate 32 0)) H rfl rfl rfl (by kernel_rfl) .head (by kernel_rfl) (oneCell_ints _ _)) ?_; clear H; intro w5 H; have tok6 : True := trivial)
        | (clear tok6; refine st_val rfl (rn_loadAll (cs := u8s (id ++ seed)) H rfl rfl (.tail _ (.head _)) rfl rfl hsz48.out) ?_; have tok7 : True := trivial)
        | (clear tok7; go_at_call 16; refine (hs1.out _).mono ?_; rintro e w6 ⟨rfl, h3⟩; have H2 := H.call0 h3; clear H h3; have H := H2; clear H2; have tok8 : True := trivial)
        | (clear tok8; refine st_val rfl (rn_cells rfl rfl rfl rfl hsz.out (fun j v hj => H.rowL (.tail _ (.head _)) j v hj)) ?_; have tok9 : True := trivial)
        | (clear tok9; go_at_call 18; refine (hc1.out _).mono ?_; rintro e w7 ⟨rfl, h3⟩; have H2 := H.call0 h3; clear H h3; have H := H2; clear H2; have tok10 : True := trivial)
        | (clear tok10; refine st_new rfl (rn_alloc H rfl info_hash) ?_; clear H; intro b13 w8 hb13 H; have tok11 : True := trivial)
        | (clear tok11; refine st_skip rfl (rn_storeAll (vs := u8s (List.replicate 32 0)) H rfl rfl rfl (by kernel_rfl) .head (by kernel_rfl) (oneCell_ints _ _)) ?_; clear H; intro w9 H; have tok12 : True := trivial)
        | (clear tok12; go_at_call 14; refine (hto.out _).mono ?_; rintro e w10 ⟨rfl, h3⟩; have H2 := H.call0 h3; clear H h3; have H := H2; clear H2; have tok13 : True := trivial)
        | (clear tok13; refine st_valG rfl (rn_loadAll (cs := u8s (List.replicate 32 0)) H rfl rfl (.tail _ (.head _)) rfl rfl (by kernel_rfl)) ?_; have tok14 : True := trivial)
        | (clear tok14; refine st_valG rfl (rn_loadAll (cs := u8s (List.replicate 32 0)) H rfl rfl (.head _) rfl rfl (by kernel_rfl)) ?_))
      have h1 := Lib.hid (H.end0 (by simp; omega))
      go_ret
      exact ⟨rfl, h1.out⟩

end Go.Proofs.Ytokichlmgepdpaa
