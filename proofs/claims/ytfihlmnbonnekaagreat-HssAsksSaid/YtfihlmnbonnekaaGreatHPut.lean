/- hss: a tree's signature, put behind what was written. -/
import Derived.Test.YtfihlmnbonnekaaGreatHUnC
namespace Go.Proofs.YtfihlmnbonnekaaGreat
open Go.RowKit
set_option maxHeartbeats 32000000
set_option linter.unusedVariables false
set_option maxRecDepth 100000 in
theorem put_any (w0 w : World) (M : List Ent) (wb mb tb : Nat) (v mv : Value) (xs msg : List Int) (id sd : List Int) (h16 : id.length = 16) (h32 : sd.length = 32) (k : Nat) (hk : k = 1 ∨ k = 2 ∨ k = 4 ∨ k = 8) (cs : List Value) (hcs : IsTree id sd k cs) (q : Nat) (hq : q < 32)
 (hO : Old w mv msg) (hmb : IsBytes msg) (hml : msg.length ≤ 90000) (hmne : ∀ k, blk mv = some k → k ≠ tb) (hxl : xs.length ≤ 90000) (hwb : w0.heap.size ≤ wb) (hmw : w0.heap.size ≤ mb)
 (B : Buf 5 .u8 w0 w ((wb, [v], 79) :: ((mb, [mv], 27) :: (M ++ [(tb, cs, 74)]))) v xs) :
 Calls Tryz.prog 57 #[.pointer (some ⟨tb, 0, none⟩), .int .i64 q, .pointer (some ⟨mb, 0, none⟩), .pointer (some ⟨wb, 0, none⟩)] w fun e w' => ∃ r, e = .returned r ∧ BufR w0.heap.size (xs ++ lsigOf id sd k q msg) w' r ∧ Own w0 w' (M ++ [(tb, fullT id sd k, 74)]) := by
 obtain ⟨n, hn⟩ : ∃ n, n = sizeOfL k := ⟨_, rfl⟩
 have hlen : Hid ((lsigOf id sd k q msg).length = n) := by show _ = _; rw [hn]; exact length_lsigOf _ _ _ _ _
 have hnb : n ≤ 10000 := by rw [hn]; rcases hk with rfl | rfl | rfl | rfl <;> exact nB (by kernel_rfl)
 have hsg : Hid (Calls Tryz.prog 15 #[.pointer (some ⟨tb, 0, none⟩), .int .i64 q, mv] w fun e w' => ∃ p c, e = .returned (.tuple #[.slice p n c, .int .i64 0]) ∧ Old w' (.slice p n c) (lsigOf id sd k q msg) ∧ NewS w.heap.size (.slice p n c) ∧ Own w w' [(tb, fullT id sd k, 74)]) := lsign_any w tb id sd h16 h32 k hk cs hcs q hq mv msg hO hmb hml (B.own0.sub1 (by simp)) hmne hn
 have c1 : Hid (w.cell? ⟨mb, 0, none⟩ = some mv) := B.own0.cell (.tail _ (.head _)) 0
 obtain ⟨SG, hSG⟩ : ∃ x, x = lsigOf id sd k q msg := ⟨_, rfl⟩
 rw [← hSG] at hlen hsg ⊢
 obtain ⟨FT, hFT⟩ : ∃ x, x = fullT id sd k := ⟨_, rfl⟩
 rw [← hFT] at hsg ⊢
 have hw0 := B.own0.size
 clear h16 h32 hk hcs hO hmb hml hmne hn hSG hFT
 go_enter Tryz.func57, Tryz.ntmps57
 have z1 := tt
 go_wp2_with (first
  | (clear z1; refine st_val rfl (rn_cell rfl rfl rfl rfl c1.out) ?_; have z2 := tt)
  | (clear z2; go_at_call 15; refine hsg.out.mono ?_; rintro e w1 ⟨p, c, rfl, g1, g2, g3⟩; have S1 := Hh g1; have hw1 := g3.size; have B2 : Buf 5 .u8 w0 w1 ((wb, [v], 79) :: ((mb, [mv], 27) :: (M ++ [(tb, FT, 74)]))) v xs := Buf.callL (L := (wb, [v], 79) :: (mb, [mv], 27) :: M) (Lr := [(tb, cs, 74)]) B g3 rfl; clear B g1 g2 g3; have B := B2; clear B2; have z3 := tt)
  | (clear z3; go_at_call 39; refine (raw_any _ _ _ _ _ _ B _ SG S1.out.1 (by rw [hlen.out]; omega)).mono ?_; rintro e w2 ⟨rfl, v2, B2⟩; clear B; have B := B2; clear B2; have hw2 := B.own0.size; have z4 := tt)
  | (clear z4; go_at_call 40; refine (bytesB_any _ wb v2 _ (B.own0.sub1 (.head _)) B.bytesAt B.lt (by rw [List.length_append, hlen.out]; omega)).mono ?_; rintro e w3 ⟨r, rfl, hr⟩; have R3 := Hh hr; have H := B.own0.call0 hr.own0; clear B hr))
 go_ret
 exact ⟨_, rfl, ⟨_, hw2, R3.out⟩, H.drop (L1 := [_, _]) (by simp; omega)⟩
end Go.Proofs.YtfihlmnbonnekaaGreat
