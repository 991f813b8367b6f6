/- Laws of pieces; what the laws of layer 20 begin with. -/
import Derived.Test.YtjcnhpnadfhjaaaSplit
namespace Go.Proofs.Ytjcnhpnadfhjaaa
open Go.RowKit

theorem pc_length (bs : List Int) (i : Nat) : (pc bs i).length = min 256 (bs.length - 256 * i) := by unfold pc; rw [List.length_take, List.length_drop]
theorem pcs_get {bs : List Int} {k i : Nat} (h : i < k) : (pcs bs k)[i]?.getD [] = pc bs i := by simp [pcs, h]

theorem okAll_pcs (bs : List Int) : okAll (pcs bs (np bs.length)) := by
  intro i hi
  rw [length_pcs] at hi
  unfold okAt
  rw [pcs_get hi, pc_length, length_pcs]
  unfold np at *
  omega

theorem flatten_pcs_take (bs : List Int) : ∀ k, (pcs bs k).flatten = bs.take (256 * k)
  | 0 => rfl
  | k + 1 => by
    rw [pcs_succ, List.flatten_append, flatten_pcs_take bs k]
    unfold pc
    rw [show 256 * (k + 1) = 256 * k + 256 by omega, List.take_add]
    simp
theorem flatten_pcs (bs : List Int) : (pcs bs (np bs.length)).flatten = bs := by
  rw [flatten_pcs_take]
  exact List.take_of_length_le (by unfold np; omega)

theorem jcode_self (bs : List Int) : jcode (pcs bs (np bs.length)) (sumsTo (pcs bs (np bs.length)) (np bs.length)) = 0 :=
  jcode_ok (okAll_pcs bs) (by rw [length_pcs])
theorem jbytes_self (bs : List Int) : jbytes (pcs bs (np bs.length)) (sumsTo (pcs bs (np bs.length)) (np bs.length)) = bs := by
  rw [jbytes_ok (jcode_self bs), flatten_pcs]

theorem OldL.nil (w : World) : OldL w (.slice none 0 0) [] := ⟨Or.inl ⟨⟨_, rfl⟩, rfl, rfl⟩, (by intro k hk; cases hk), by simp⟩
theorem OldH.nil (w : World) : OldH w (.slice none 0 0) [] := ⟨Or.inl ⟨⟨_, rfl⟩, rfl, rfl⟩, (by intro k hk; cases hk), by simp⟩

section
variable {P : Program} {ops : Array Oper} {rest : List Oper} {o : Oper} {a : Act} {w w0 : World} {Q : Exit → Act → World → Prop} {L L' : List Ent}

/-- make([]T, 1), of whatever elements -/
theorem rn_make1 (H : Own w0 w L) {t : TypeId} {x y : Operand} (ho : o.op = .makeSlice t x y) {e : TypeId} {cs : List Value} {by_ sz : Nat} (ht : P.underlying t = some (.slice e))
    (he : ((P.info? e).bind fun i => i.zero.map fun z => (i.size, i.bytes, z.cells.toList)) = some (sz, by_, cs)) (hsz : sz = cs.length) {k1 k2 : IntKind} (hx : a.eval x = .int k1 1) (hy : a.eval y = .int k2 1) (hb : by_ ≤ 281474976710656) :
    ∃ b w', (execOp a.eval o).run P w = .ok (.value (.slice (some ⟨b, 0, none⟩) 1 1)) w' ∧ w0.heap.size ≤ b ∧ Own w0 w' ((b, cs, e) :: L) := by
  cases hi : P.info? e with
  | none => simp [hi] at he
  | some i =>
    cases hz : i.zero with
    | none => simp [hi, hz] at he
    | some z =>
      simp [hi, hz] at he
      obtain ⟨hs, hby, hc⟩ := he
      have hzc : z.cells = cs.toArray := by rw [← hc]
      have hr := run_make (P := P) w t e i z ht hi hz k1 k2 1 1 (by omega) (Int.le_refl _) (by rw [hby]; omega) (by decide)
      have hm : madeCells z.cells ((1 : Int).toNat * i.size) = cs.toArray := by
        rw [hzc, hs, hsz]
        apply Array.ext
        · simp [madeCells]
        · intro j h1 h2
          have hj : j < cs.length := by simpa using h2
          simp [madeCells, Nat.mod_eq_of_lt hj, hj]
      rw [hm] at hr
      refine ⟨w.heap.size, _, ?_, H.size, H.alloc cs e⟩
      unfold execOp
      simp only [ho, hx, hy, Sem.run_bind, hr, Result.andThen_ok]
      rfl
end

theorem make_hash : ((Try.prog.info? 35).bind fun i => i.zero.map fun z => (i.size, i.bytes, z.cells.toList)) = some (32, 32, u8s (List.replicate 32 0)) := by kernel_rfl

theorem range_zeros (n : Nat) : ∀ j, j < (List.replicate n (0 : Int)).length → 0 ≤ (List.replicate n (0 : Int))[j]?.getD 0 ∧ (List.replicate n (0 : Int))[j]?.getD 0 < 256 := by
  intro j hj
  rw [List.length_replicate] at hj
  simp [hj]

/-- one slice of nothing in a literal -/
theorem oldL_one {w0 w : World} {L : List Ent} {b b2 : Nat} {T T2 : TypeId} (H : Own w0 w ((b2, [.slice (some ⟨b, 0, none⟩) 0 0], T2) :: (b, [], T) :: L)) : OldL w (.slice (some ⟨b2, 0, none⟩) 1 1) [(.slice (some ⟨b, 0, none⟩) 0 0, [])] := by
  refine ⟨Or.inr ⟨b2, 0, 1, rfl, ⟨Nat.le_refl _, by simp⟩, fun i x hx => by rw [H.cell (.head _), Nat.zero_add]; exact hx⟩, fun k hk => ?_, fun i x hx => ?_⟩
  · obtain rfl := (blk_some hk).1
    exact H.lt (.head _)
  · match i, hx with
    | 0, hx =>
      cases hx
      exact ⟨⟨Or.inl ⟨⟨_, rfl⟩, rfl, rfl⟩, fun k hk => by cases hk⟩, ⟨_, _, rfl⟩, by simp⟩

theorem oldH_one {w0 w : World} {L : List Ent} {b : Nat} {T : TypeId} (H : Own w0 w ((b, u8s (List.replicate 32 0), T) :: L)) : OldH w (.slice (some ⟨b, 0, none⟩) 1 1) [List.replicate 32 0] := by
  refine ⟨Or.inr ⟨b, 0, 1, rfl, ⟨Nat.le_refl _, by simp⟩, fun i x hx => by
      rw [H.cell (.head _), Nat.zero_add]
      simpa [hcells] using hx⟩, fun k hk => ?_, by simp⟩
  obtain rfl := (blk_some hk).1
  exact H.lt (.head _)

theorem second_piece {w : World} {og oo cl : Nat} {ls : List (Value × List Int)} (h : OldL w (.slice (some ⟨og, oo, none⟩) 2 cl) ls) (hl : ls.length = 2) {zs : List Int} {k : Nat} (hm : ls.map (·.2) = pcs zs k) (h1 : (pc zs 1).length = 1) :
    ∃ px cx, Hid (∀ w' : World, OldL w' (.slice (some ⟨og, oo, none⟩) 2 cl) ls → w'.cell? ⟨og, oo + (1 : Int).toNat * 1, none⟩ = some (.slice px 1 cx)) := by
  obtain ⟨x, hx, _, ⟨px, cx, hs⟩, hg⟩ := h.get (i := 1) (by omega)
  have hk : 1 < k := by
    have := congrArg List.length hm
    rw [List.length_map, length_pcs] at this
    omega
  rw [hm, pcs_get hk] at hg
  refine ⟨px, cx, fun w' h' => ?_⟩
  have := h'.cellAt (Own.refl w') (by simp) hx
  rw [hs, ← hg, h1] at this
  exact this

set_option maxRecDepth 100000 in
set_option maxHeartbeats 2000000 in
theorem told_any (w : World) : Calls Try.prog 9 #[] w fun e w' => e = .returned (.bool true) ∧ Own w w' [] := by
  have H := Own.refl w
  obtain ⟨zs, hzs⟩ : ∃ zs, zs = List.replicate 257 (0 : Int) := ⟨_, rfl⟩
  have hrow : Hid (List.replicate 257 (Value.int .u8 0) = u8s zs) := by show _ = _; rw [hzs]; simp [ints]
  have hzl : Hid (zs.length = 257) := by show _ = _; rw [hzs]; simp
  have hzr : Hid (∀ j, j < zs.length → 0 ≤ zs[j]?.getD 0 ∧ zs[j]?.getD 0 < 256) := by rw [hzs]; exact range_zeros 257
  have hnp : Hid (np zs.length = 2) := by show _ = _; rw [hzl.out]; rfl
  have hjs := Lib.hid (jcode_self zs)
  have hjb := Lib.hid (jbytes_self zs)
  have hj0 : Hid (jcode (([] : List (Value × List Int)).map (·.2)) [] = 0) := by show _ = _; decide
  have hb0 : Hid (jbytes (([] : List (Value × List Int)).map (·.2)) [] = []) := by show _ = _; decide
  have hj2 : Hid (∀ v : Value, jcode ([(v, ([] : List Int))].map (·.2)) [List.replicate 32 0] = 2) := fun v => jcode_bad (i := 0) (by simp) (by simp only [List.map_cons, List.map_nil]; decide)
  clear hzs
  have tok1 : True := trivial
  go_enter Try.func9, Try.ntmps9
  go_wp2_with (first
    | (clear tok1; refine st_new (f := fun b => .slice (some ⟨b, 0, none⟩) 257 257) rfl (rn_make (n := 257) H rfl rfl make_u8 rfl rfl rfl rfl (by omega) (by omega)) ?_; clear H; intro b8 w1 hb8 H; rw [hrow.out] at H; have tok2 : True := trivial)
    | (clear tok2; go_at_call 10; refine (split_any _ _ zs ⟨H.lit hzl.out.symm, H.lit_lt⟩ hzr.out (by rw [hzl.out]; omega)).mono ?_; rintro e w2 ⟨r, ls, rfl, hL, hm, h3⟩; have hl2 : ls.length = 2 := by { have h := congrArg List.length hm; rw [List.length_map, length_pcs, hnp.out] at h; exact h }; obtain ⟨pl, cl, rfl⟩ := hL.addr'; rw [hl2]; rw [hl2] at hL; have hl2' := Lib.hid hl2; have hm' := Lib.hid hm; obtain ⟨og, oo, hpl⟩ := hL.addr (by omega); subst hpl; obtain ⟨px, cx, hx1⟩ : ∃ px cx, Hid (∀ w' : World, OldL w' (.slice (some ⟨og, oo, none⟩) 2 cl) ls → w'.cell? ⟨og, oo + (1 : Int).toNat * 1, none⟩ = some (.slice px 1 cx)) := second_piece hL hl2'.out hm'.out (by rw [pc_length, hzl.out]; rfl); have H2 := H.call0 h3; clear H h3 hl2 hm; have H := H2; clear H2; have tok3 : True := trivial)
    | (clear tok3; go_at_call 8; refine (csums_any _ _ ls hL (by rw [hl2'.out]; omega) (fun i x hx => by have h1 : x.2 ∈ ls.map (·.2) := List.mem_map.2 ⟨x, List.mem_of_getElem? hx, rfl⟩; rw [hm'.out] at h1; obtain ⟨j, _, h2⟩ := List.mem_map.1 h1; rw [← h2, pc_length]; omega)).mono ?_; rintro e w3 ⟨rs, rfl, hH, h3⟩; obtain ⟨ps, cs, rfl⟩ := hH.shape; have hL2 := hL.mv h3; clear hL; have hL := hL2; clear hL2; have H2 := H.call0 h3; clear H h3; have H := H2; clear H2; have tok4 : True := trivial)
    | (clear tok4; go_at_call 7; refine (join_any _ _ _ ls _ hL hH (by rw [hl2'.out]; omega) (fun i x hx => by have h1 : x.2 ∈ ls.map (·.2) := List.mem_map.2 ⟨x, List.mem_of_getElem? hx, rfl⟩; rw [hm'.out] at h1; obtain ⟨j, _, h2⟩ := List.mem_map.1 h1; rw [← h2, pc_length]; omega)).mono ?_; rintro e w4 ⟨rb, rfl, hB, h3⟩; have e0 : jcode (ls.map (·.2)) (sumsTo (ls.map (·.2)) ls.length) = 0 := by { rw [hm'.out, hl2'.out, ← hnp.out]; exact hjs.out }; have e1 : jbytes (ls.map (·.2)) (sumsTo (ls.map (·.2)) ls.length) = zs := by { rw [hm'.out, hl2'.out, ← hnp.out]; exact hjb.out }; rw [e0]; rw [e1] at hB; clear e0 e1; obtain ⟨⟨pb, cb, rfl⟩, _⟩ := hB; rw [hzl.out]; have hL2 := hL.mv h3; clear hL hH; have hL := hL2; clear hL2; have H2 := H.call0 h3; clear H h3; have H := H2; clear H2; have tok5 : True := trivial)
    | (clear tok5; go_at_call 7; refine (join_any _ _ _ [] [] (OldL.nil _) (OldH.nil _) (by simp) (by simp)).mono ?_; rintro e w5 ⟨rb5, rfl, hB, h3⟩; rw [hj0.out]; rw [hb0.out] at hB; obtain ⟨⟨pb5, cb5, rfl⟩, _⟩ := hB; have hL2 := hL.mv h3; clear hL; have hL := hL2; clear hL2; have H2 := H.call0 h3; clear H h3; have H := H2; clear H2; have tok6 : True := trivial)
    | (clear tok6; refine st_new rfl (rn_buildSlice (e := 5) (cs := u8s []) (Own.refl w5) rfl (fun w' => by kernel_rfl)) ?_; intro b22 w6 hb22 R; have tok7 : True := trivial)
    | (clear tok7; refine st_new rfl (rn_buildSlice (e := 25) (cs := [.slice (some ⟨b22, 0, none⟩) 0 0]) R rfl (fun w' => by kernel_rfl)) ?_; clear R; intro b23 w7 hb23 R; have tok8 : True := trivial)
    | (clear tok8; refine st_new rfl (rn_make1 R rfl rfl make_hash (by simp) rfl rfl (by omega)) ?_; clear R; intro b24 w8 hb24 R; have tok9 : True := trivial)
    | (clear tok9; go_at_call 7; refine (join_any _ _ _ [(.slice (some ⟨b22, 0, none⟩) 0 0, [])] [List.replicate 32 0] (oldL_one (R.pop hb24)) (oldH_one R) (by simp) (fun i x hx => by have := List.mem_of_getElem? hx; simp at this; subst this; simp)).mono ?_; rintro e w9 ⟨rb9, rfl, hB, h3⟩; rw [hj2.out]; obtain ⟨⟨pb9, cb9, rfl⟩, _⟩ := hB; have hR := (R.call0 h3).end0 (by simp; omega); have hL2 := hL.mv hR; clear hL; have hL := hL2; clear hL2; have H2 := H.call0 hR; clear H R h3 hR; have H := H2; clear H2)
    | (refine st_valG rfl (rn_idxSl (j := 1) rfl rfl size_sl rfl rfl (by omega) (by omega)) ?_)
    | (refine st_valG rfl (rn_cell rfl rfl rfl rfl (hx1.out _ hL)) ?_))
  have H' := Lib.hid (H.end0 (by simpa using hb8))
  go_ret
  exact ⟨rfl, H'.out⟩

end Go.Proofs.Ytjcnhpnadfhjaaa
