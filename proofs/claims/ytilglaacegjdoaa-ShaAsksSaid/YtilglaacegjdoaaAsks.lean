/- chirographlaw1.ShaAsks: the walk. -/
import Derived.Test.YtilglaacegjdoaaTold
namespace Go.Proofs.Ytilglaacegjdoaa
open Go.RowKit

set_option maxRecDepth 100000 in
set_option maxHeartbeats 1000000 in
theorem shaAsks_any (w : World) (v : Value) (bs : List Int) (hv : BytesAt w v bs) (hlt : ∀ k, v.ownBlock = some k → k < w.heap.size) :
    Calls Try.prog 3 #[v] w fun e w' => e = .returned (.bool true) ∧ Own w w' [] := by
  have H := Own.refl w
  have hv' : Hid (∀ w1 L, Own w w1 L → (∀ k ∈ L.map (·.1), w.heap.size ≤ k) → BytesAt w1 v bs) := fun w1 L h1 hk => SlAt.own hv h1 (fun j hj hm => by have := hlt j hj; have := hk j hm; omega)
  have hlt' : Hid (∀ w1 : World, w.heap.size ≤ w1.heap.size → ∀ k, v.ownBlock = some k → k < w1.heap.size) := fun w1 h1 k hk => by have := hlt k hk; omega
  obtain ⟨n, hn⟩ : ∃ n, n = bs.length := ⟨_, rfl⟩
  have hlv : ∃ p c, v = .slice p n c := by
    rcases hv.cell with ⟨rfl, rfl⟩ | ⟨b, off, cap, rfl, _, _⟩
    · exact ⟨none, 0, by rw [hn]; rfl⟩
    · exact ⟨_, _, by rw [hn]⟩
  obtain ⟨pv, cv, rfl⟩ := hlv
  have hn' := Lib.hid hn
  clear hv hlt hn
  obtain ⟨S, hS⟩ : ∃ S, sha bs = S := ⟨_, rfl⟩
  have lS : Hid (S.length = 32) := hS ▸ length_sha _
  have iS : Hid (IsBytes S) := hS ▸ isBytes_sha _
  have hS' := Lib.hid hS
  have eS : ∀ w, (Op.equalIn 10000 25 (.agg (u8s S).toArray) (.agg (u8s S).toArray)).run Try.prog w = .ok true w := fun w => by rw [eqHash w S S lS.out lS.out, decide_eq_true rfl]
  have hsz : Hid ((Try.prog.info? 25).map (·.size) = some (u8s S).length) := by show _ = _; rw [show (u8s S).length = 32 by simpa [ints] using lS.out]; exact size_hash
  have hl0 : Hid ((u8s S).length = (u8s (List.replicate 32 0)).length) := by show _ = _; rw [show (u8s S).length = 32 by simpa [ints] using lS.out]; rfl
  clear hS
  by_cases hbig : n ≤ 1000
  · go_enter Try.func3, Try.ntmps3
    go_wp2_with (first
      | (go_at_call 10; refine (shaSum_any _ _ bs (hv'.out _ _ (Own.refl w) (by simp)) (hlt'.out w (Nat.le_refl _)) (by have := hn'.out; omega)).mono ?_; rintro e w3 ⟨rfl, h3⟩; rw [hS'.out]; have H2 := H.call0 h3; clear H h3; have H := H2; clear H2)
      | (refine st_new rfl (rn_alloc H rfl info_hash) ?_; clear H; intro b w1 hb H)
      | (refine st_skip rfl (rn_storeAll H rfl rfl rfl hsz.out .head hl0.out (oneCell_ints _ _)) ?_; clear H; intro w8 H))
    refine region_grow 14 (by kernel_rfl) (by kernel_rfl) (by kernel_rfl) [.val (.bool true), .val (.bool true), .val (.agg (u8s S).toArray), .val (.slice pv n cv), .val (.agg (u8s S).toArray), .val (.bool true), .val (.bool true), .val (.bool true), .val (.agg (u8s S).toArray), .val (.string (strOfNums (hexs S))), .val (.agg (u8s S).toArray), .val (.string (strOfNums (hexs S))), .val (.bool true), .val (.bool true)] rfl ?_
    have hload : Hid (∀ w', Own w8 w' [] → Own w w' [(b, u8s S, 25)]) := fun w' h => H.call0 h
    have hsum : Hid (∀ w', Own w8 w' [] → Calls Try.prog 11 #[.slice pv n cv] w' fun e w'' => e = .returned (.agg (u8s S).toArray) ∧ Own w' w'' []) := fun w' h => by
      have h1 := H.call0 h
      have := refSum_any w' (.slice pv n cv) bs (hv'.out _ _ h1 (by simpa using hb)) (hlt'.out w' h1.size) (by have := hn'.out; omega)
      rw [hS'.out] at this
      exact this
    have tok1 : True := trivial
    go_frame
    repeat (first
      | (clear tok1; refine sp_callN (args := #[]) rfl rfl (by simp) Try.func9 (by kernel_rfl) (by kernel_rfl) (fun w' _ _ => told_any w') ?_; go_frame; have tok2 : True := trivial)
      | (refine sp_run (v := .agg (u8s S).toArray) rfl (fun w' hw' _ => rn_loadAll (hload.out w' hw') rfl rfl (.head _) rfl rfl hsz.out) ?_; go_frame)
      | (clear tok2; refine sp_callN (args := #[.slice pv n cv]) rfl rfl (by simp [Act.eval]) Try.func11 (by kernel_rfl) (by kernel_rfl) (fun w' hw' _ => hsum.out w' hw') ?_; go_frame; have tok3 : True := trivial)
      | (clear tok3; refine sp_callN (args := #[.agg (u8s S).toArray]) rfl rfl (by simp [Act.eval]) Try.func12 (by kernel_rfl) (by kernel_rfl) (fun w' hw' _ => shaHex_any w' S lS.out iS.out) ?_; go_frame; have tok4 : True := trivial)
      | (clear tok4; refine sp_callN (args := #[.agg (u8s S).toArray]) rfl rfl (by simp [Act.eval]) Try.func13 (by kernel_rfl) (by kernel_rfl) (fun w' hw' _ => refHex_any w' S lS.out iS.out) ?_; go_frame)
      | (refine sp_val (fun w' hw' hF => ?_) ⟨_, rfl, Nat.le_of_ble_eq_true rfl⟩ ?_
         · go_big_quiet_step (fail)
           exact rfl
         go_frame))
    refine sp_nil ?_
    intro w' hw' _
    have H' := Lib.hid ((H.call0 hw').end0 (by simpa using hb))
    clear hload hsum H
    simp only [List.drop_succ_cons, List.drop_zero]
    go_wp2_with fail
    go_ret
    exact ⟨rfl, H'.out⟩
  · have hbig' : 1000 < n := by omega
    clear hv' hlt' hbig
    go_enter Try.func3, Try.ntmps3
    go_wp2_with (go_at_call 9; refine (told_any _).mono ?_; rintro e w3 ⟨rfl, h3⟩; have H2 := H.call0 h3; clear H h3; have H := H2; clear H2)
    have H' := Lib.hid H
    go_ret
    exact ⟨rfl, H'.out⟩

theorem shaAsks_row (w : World) (v : Value) (bs : List Int) (hv : BytesAt w v bs) (hlt : ∀ k, v.ownBlock = some k → k < w.heap.size) (_ : ∀ i, i < bs.length → 0 ≤ bs[i]?.getD 0 ∧ bs[i]?.getD 0 < 256) :
    Calls Try.prog 3 #[v] w fun e w' => e = .returned (.bool true) ∧ Own w w' [] := shaAsks_any w v bs hv hlt

end Go.Proofs.Ytilglaacegjdoaa
