/- ots: hash, key. -/
import Derived.Test.YtfihlmnbonnekaaPrg1
import Derived.Test.YtfihlmnbonnekaaPack
namespace Go.Proofs.Ytfihlmnbonnekaa
open Go.RowKit

theorem info_writer : ((Try.prog.info? 107).bind (·.zero)).map (fun z => z.cells.toList) = some [.slice none 0 0] := by kernel_rfl

/-- what hash hashes -/
def hashIn (id : List Int) (q n : Nat) (ls : List (List Int)) : List Int := frontq id q ++ numB n 2 ++ ls.flatten

set_option maxRecDepth 100000 in
set_option maxHeartbeats 4000000 in
theorem hash_any (w : World) (id : List Int) (h16 : id.length = 16) (q n : Nat) (hq : q < 32) (hn : n < 65536) (v : Value) (ls : List (List Int)) (hv : LitL ls w v) (hl : ls.flatten.length ≤ 200000) (hl9 : ls.length ≤ 1000) :
    Calls Try.prog 83 #[.agg (u8s id).toArray, .int .i64 q, .int .i64 n, v] w fun e w' => e = .returned (.agg (u8s (sha (hashIn id q n ls))).toArray) ∧ Own w w' [] := by
  have H := Own.refl w
  obtain ⟨l, hO, hls⟩ := hv
  have hlen : l.length = ls.length := by rw [← hls, List.length_map]
  obtain ⟨pv, cv, rfl⟩ := hO.addr'
  have O := Lib.hid hO
  obtain ⟨m, hm⟩ : ∃ m, m = l.length := ⟨_, rfl⟩
  rw [← hm] at O hlen ⊢
  have hm' := Lib.hid hm
  have h16' := Lib.hid h16
  have hm9 : m ≤ 1000 := by omega
  obtain ⟨A, hA⟩ : ∃ A, A = frontq id q ++ numB n 2 := ⟨_, rfl⟩
  have hAl : Hid (A.length = 22) := by show _ = _; rw [hA, List.length_append, length_frontq h16, length_numB]
  have hA1 : Hid ([] ++ id ++ numB q 4 ++ numB n 2 = A) := by show _ = _; rw [hA]; rfl
  have hfin : Hid (A ++ flatL l m = hashIn id q n ls) := by show _ = _; rw [hm, LitL.flat hls, hA]; rfl
  have hfl : Hid (∀ i, (flatL l i).length ≤ 200000) := fun i => Nat.le_trans (flatL_le l i) (by rw [LitL.flat hls]; exact hl)
  have hfs : Hid (∀ i x, l[i]? = some x → flatL l (i + 1) = flatL l i ++ x.2) := fun i x h => flatL_succ h
  have hf0 : Hid (flatL l 0 = []) := rfl
  obtain ⟨Z, hZ⟩ : ∃ Z, Z = hashIn id q n ls := ⟨_, rfl⟩
  rw [← hZ] at hfin ⊢
  obtain ⟨F, hF⟩ : ∃ F, F = flatL l := ⟨_, rfl⟩
  rw [← hF] at hfin hfl hfs hf0
  have hZl : Hid (Z.length ≤ 200022) := by show _ ≤ _; rw [← hfin.out, List.length_append, hAl.out]; have := hfl.out m; omega
  clear hO hls hlen hl hl9 hm h16 hA hZ hF
  go_enter Try.func83, Try.ntmps83
  have tok1 : True := trivial
  go_wp2_with (first
    | (clear tok1; refine st_new rfl (rn_box (cs := u8s id) H rfl rfl rfl) ?_; clear H; intro b4 w1 hb4 H; have tok2 : True := trivial)
    | (clear tok2; refine st_new rfl (rn_alloc H rfl info_hash) ?_; clear H; intro b8 w2 hb8 H; have tok3 : True := trivial)
    | (clear tok3; refine st_new rfl (rn_alloc H rfl info_writer) ?_; clear H; intro b9 w3 hb9 H; have B : Buf 5 .u8 w w3 ((b9, [.slice none 0 0], 107) :: [(b8, u8s (List.replicate 32 0), 28), (b4, u8s id, 26)]) (.slice none 0 0) [] := Buf.nil H; clear H; have tok4 : True := trivial)
    | (refine st_val rfl (rn_sliceAll rfl rfl size_u8 rfl (by omega)) ?_)
    | (clear tok4; go_at_call 60; refine (raw_any _ _ _ _ _ _ B _ id (Own.litM B.own0 (.tail _ (.tail _ (.head _))) h16'.out.symm) (by rw [h16'.out]; decide)).mono ?_; rintro e w4 ⟨rfl, v4, B2⟩; clear B; have B := B2; clear B2; have tok5 : True := trivial)
    | (clear tok5; go_at_call 59; refine (num_any _ _ _ _ _ _ B q 4 (by omega) (by omega) (by rw [List.nil_append, h16'.out]; omega)).mono ?_; rintro e w5 ⟨rfl, v5, B2⟩; clear B; have B := B2; clear B2; have tok6 : True := trivial)
    | (clear tok6; go_at_call 59; refine (num_any _ _ _ _ _ _ B n 2 (by omega) (by omega) (by rw [List.nil_append, List.length_append, h16'.out, length_numB]; omega)).mono ?_; rintro e w6 ⟨rfl, v6, B2⟩; rw [hA1.out] at B2; clear B; have B := B2; clear B2))
  go_loopw [22] (fun v22 wr => ∃ (i : Nat) (u : Value), i ≤ m ∧ v22 = .int .i64 ((i : Nat) : Int) ∧ Buf 5 .u8 w wr ((b9, [u], 107) :: [(b8, u8s (List.replicate 32 0), 28), (b4, u8s id, 26)]) u (A ++ F i)) (fun v22 _ => ((m : Nat) - intOf v22).toNat)
  case atStart => exact ⟨0, v6, by omega, rfl, by rw [hf0.out, List.append_nil]; exact B⟩
  case round =>
    clear B
    obtain ⟨i, u, hi, rfl, B⟩ := hrel
    by_cases hin : i < m
    · obtain ⟨x, hx⟩ : ∃ x, l[i]? = some x := ⟨_, List.getElem?_eq_getElem (by have := hm'.out; omega)⟩
      obtain ⟨hxo, ⟨px, cx, hxs⟩, _⟩ := O.out.el i x hx
      have hFx := Lib.hid (hfs.out i x hx)
      obtain ⟨og, oo, hp0⟩ := O.out.addr (by have := hm'.out; omega)
      subst hp0
      have hcell : Hid (∀ w1 L1, Own w w1 L1 → (∀ b ∈ L1.map (·.1), w.heap.size ≤ b) → w1.cell? ⟨og, oo + (i : Int).toNat * 1, none⟩ = some (.slice px x.2.length cx)) := fun w1 L1 h1 h2 => by rw [← hxs]; exact O.out.cellAt h1 h2 (by simpa using hx)
      have hxo' : Hid (∀ w1 L1, Own w w1 L1 → (∀ b ∈ L1.map (·.1), w.heap.size ≤ b) → BytesAt w1 (.slice px x.2.length cx) x.2) := fun w1 L1 h1 h2 => by rw [← hxs]; exact hxo.at h1 h2
      have hl3 := Lib.hid (hfl.out (i + 1))
      have hl4 : Hid ((F (i + 1)).length = (F i).length + x.2.length) := by show _ = _; rw [hFx.out, List.length_append]
      have hst : Hid (A ++ F i ++ x.2 = A ++ F (i + 1)) := by show _ = _; rw [hFx.out, List.append_assoc]
      obtain ⟨ys, hys⟩ : ∃ ys, x.2 = ys := ⟨_, rfl⟩
      rw [hys] at hcell hxo' hFx hl4 hst
      clear hxo hxs hx hys
      go_wp2_with (first
        | (refine st_val rfl (rn_idxSl (j := (i : Int)) rfl rfl size_sl rfl rfl (by omega) (by omega)) ?_)
        | (refine st_val rfl (rn_cell (i := oo + (i : Int).toNat * 1) rfl rfl rfl rfl (hcell.out _ _ B.own0 (by simp; omega))) ?_)
        | (go_at_call 60; refine (raw_any _ _ _ _ _ _ B _ ys (hxo'.out _ _ B.own0 (by simp; omega)) (by rw [List.length_append, hAl.out]; have := hl3.out; have := hl4.out; omega)).mono ?_; rintro e w7 ⟨rfl, v7, B2⟩; rw [hst.out] at B2; clear B; have B := B2; clear B2))
      exact ⟨⟨i + 1, _, by omega, by go_num, B⟩, by simp [intOf]; omega⟩
    · obtain rfl : i = m := by omega
      rw [hfin.out] at B
      have tok7 : True := trivial
      go_wp2_with (first
        | (clear tok7; go_at_call 61; refine (bytes_any _ b9 u Z (B.own0.sub1 (.head _)) B.bytesAt B.lt (by have := hZl.out; omega)).mono ?_; rintro e w7 ⟨r, rfl, hr, h3⟩; have H := B.own0.call0 h3; clear B h3; have R7 := Lib.hid hr; clear hr; have tok8 : True := trivial)
        | (clear tok8; go_at_call 88; refine (shaSum_any _ _ Z R7.out.2.1 R7.out.2.2 (by have := hZl.out; omega)).mono ?_; rintro e w8 ⟨rfl, h3⟩; have H2 := H.call0 h3; clear H h3 R7; have H := H2; clear H2; have tok9 : True := trivial)
        | (clear tok9; refine st_skip rfl (rn_storeAll (vs := u8s (sha Z)) H rfl rfl rfl (by kernel_rfl) (.tail .head) (by kernel_rfl) (oneCell_ints _ _)) ?_; clear H; intro w9 H))
      refine fin_cell rfl H rfl (.tail _ (.head _)) rfl rfl (by kernel_rfl) rfl ⟨rfl, ?_⟩
      exact H.end0 (by simp; omega)

end Go.Proofs.Ytfihlmnbonnekaa
