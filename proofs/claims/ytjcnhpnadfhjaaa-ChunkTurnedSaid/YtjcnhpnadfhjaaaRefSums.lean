/- The reference's sums of pieces. -/
import Derived.Test.YtjcnhpnadfhjaaaSums
import Derived.Test.YtjcnhpnadfhjaaaMark
namespace Go.Proofs.Ytjcnhpnadfhjaaa
open Go.RowKit

theorem OldL.mv {w w1 : World} {v : Value} {ls : List (Value × List Int)} (h : OldL w v ls) (ho : Own w w1 []) : OldL w1 v ls :=
  ⟨h.sl.own0 ho, fun k hk => Nat.lt_of_lt_of_le (h.lt k hk) ho.size, fun i x hx => ⟨(h.el i x hx).1.mv ho (by simp), (h.el i x hx).2⟩⟩
theorem Mk.old {B : Nat} {w1 w2 : World} (h : Mk B w1 w2) {v : Value} {xb : List Int} (ho : Old w1 v xb) : Old w2 v xb := ⟨h.sl ho.1, fun k hk => Nat.lt_of_lt_of_le (ho.2 k hk) h.2.2.2.1⟩
theorem Mk.oldL {B : Nat} {w1 w2 : World} (h : Mk B w1 w2) {v : Value} {ls : List (Value × List Int)} (ho : OldL w1 v ls) : OldL w2 v ls :=
  ⟨h.sl ho.sl, fun k hk => Nat.lt_of_lt_of_le (ho.lt k hk) h.2.2.2.1, fun i x hx => ⟨h.old (ho.el i x hx).1, (ho.el i x hx).2⟩⟩
theorem BIn.old {xs : List Int} {w : World} {v : Value} (h : BIn xs w v) : Old w v xs := ⟨h.2.1, h.2.2⟩

/-- three slices in a literal -/
def Three (xa xb xc : List Int) (v3 : Value) : World → Value → Prop := fun w v => ∃ v1 v2, OldL w v [(v1, xa), (v2, xb), (v3, xc)]
/-- a literal of one hash -/
def OneH (S : List Int) : World → Value → Prop := fun w v => (∃ p c, v = .slice p 1 c) ∧ SlAt w v 1 (u8s S)

theorem flatL_three (v1 v2 v3 : Value) (xa xb xc : List Int) : flatL [(v1, xa), (v2, xb), (v3, xc)] 3 = xa ++ xb ++ xc := by simp [flatL]

section
variable {P : Program} {o : Oper} {a : Act} {w : World}

/-- a literal of three slices -/
theorem lit_three {e : TypeId} {p1 p2 p3 : Option Addr} {c1 c2 c3 : Nat} {xa xb xc : List Int} (h1 : Old w (.slice p1 xa.length c1) xa) (h2 : Old w (.slice p2 xb.length c2) xb) (h3 : Old w (.slice p3 xc.length c3) xc)
    (r1 : ∀ j, j < xa.length → 0 ≤ xa[j]?.getD 0 ∧ xa[j]?.getD 0 < 256) (r2 : ∀ j, j < xb.length → 0 ≤ xb[j]?.getD 0 ∧ xb[j]?.getD 0 < 256) (r3 : ∀ j, j < xc.length → 0 ≤ xc[j]?.getD 0 ∧ xc[j]?.getD 0 < 256)
    {t : TypeId} {parts : Array (Nat × Operand)} (ho : o.op = .buildSlice t 3 parts)
    (hf : ∀ w', (Instr.buildSlice t 3 (parts.map fun (i, x) => (i, a.eval x))).run P w' = .ok (.slice (some ⟨w'.heap.size, 0, none⟩) 3 3) (w'.alloc (.cells [.slice p1 xa.length c1, .slice p2 xb.length c2, .slice p3 xc.length c3].toArray e))) :
    YieldsTo P o a w (fun v' w2 => Own w w2 [] ∧ Three xa xb xc (.slice p3 xc.length c3) w2 v') := by
  obtain ⟨n, w2, hr, hn, ho1⟩ := rn_buildSlice (o := o) (a := a) (Own.refl w) ho hf
  have hnew : ∀ k ∈ ([(n, [.slice p1 xa.length c1, .slice p2 xb.length c2, .slice p3 xc.length c3], e)] : List Ent).map (·.1), w.heap.size ≤ k := by simpa using hn
  refine yieldsTo_val' hr ⟨ho1.end0 hnew, _, _, ⟨Or.inr ⟨n, 0, 3, rfl, ⟨Nat.le_refl _, by simp⟩, fun i x hx => by rw [ho1.cell (.head _), Nat.zero_add]; exact hx⟩, fun k hk => ?_, fun i x hx => ?_⟩⟩
  · obtain rfl := (blk_some hk).1
    exact ho1.lt (.head _)
  · match i, hx with
    | 0, hx => cases hx; exact ⟨h1.mv ho1 hnew, ⟨_, _, rfl⟩, r1⟩
    | 1, hx => cases hx; exact ⟨h2.mv ho1 hnew, ⟨_, _, rfl⟩, r2⟩
    | 2, hx => cases hx; exact ⟨h3.mv ho1 hnew, ⟨_, _, rfl⟩, r3⟩
end

theorem lit_oneH {S : List Int} (hS : S.length = 32) {o : Oper} {a : Act} {w : World} {parts : Array (Nat × Operand)} (ho : o.op = .buildSlice 28 1 parts) (hp : (parts.map fun (i, x) => (i, a.eval x)) = #[(0, .agg (u8s S).toArray)]) :
    YieldsTo Try.prog o a w (fun v w2 => Own w w2 [] ∧ OneH S w2 v) := by
  obtain ⟨nn, w2, hr, hnn, ho1⟩ := rn_buildSlice (o := o) (a := a) (Own.refl w) ho (litHash hS hp)
  exact yieldsTo_val' hr ⟨ho1.end0 (by simpa using hnn), ⟨_, _, rfl⟩, Or.inr ⟨nn, 0, 1, rfl, ⟨Nat.le_refl _, by omega⟩, fun i x hx => by rw [ho1.cell (.head _), Nat.zero_add]; exact hx⟩⟩

theorem range_numB (x : Int) (m : Nat) : ∀ j, j < (numB x m).length → 0 ≤ (numB x m)[j]?.getD 0 ∧ (numB x m)[j]?.getD 0 < 256 := by
  intro j hj
  have hm : j < m := by rwa [length_numB] at hj
  have : (numB x m)[j]?.getD 0 = x / 2 ^ (8 * (m - 1 - j)) % 256 := by simp [numB, hm]
  rw [this]
  exact ⟨Int.emod_nonneg _ (by omega), Int.emod_lt_of_pos _ (by omega)⟩

theorem range_chnk : ∀ j, j < ([67, 72, 78, 75] : List Int).length → 0 ≤ ([67, 72, 78, 75] : List Int)[j]?.getD 0 ∧ ([67, 72, 78, 75] : List Int)[j]?.getD 0 < 256 := by decide

set_option maxRecDepth 100000 in
set_option maxHeartbeats 2000000 in
theorem refSums_any (w : World) (v : Value) (ls : List (Value × List Int)) (hO : OldL w v ls) (hn9 : ls.length ≤ 4398046511104) (hl : ∀ (i : Nat) (x : Value × List Int), ls[i]? = some x → x.2.length ≤ 70368744170000) :
    Calls Try.prog 12 #[v] w fun e w' => ∃ r, e = .returned r ∧ OldH w' r (sumsTo (ls.map (·.2)) ls.length) ∧ Own w w' [] := by
  have H := Own.refl w
  obtain ⟨p0, c0, rfl⟩ := hO.addr'
  obtain ⟨n, hn⟩ : ∃ n, n = ls.length := ⟨_, rfl⟩
  rw [← hn] at hO hn9 ⊢
  have O := Lib.hid hO
  have hl' := Lib.hid hl
  have hn' := Lib.hid hn
  obtain ⟨F, hF⟩ : ∃ F, F = sumsTo (ls.map (·.2)) := ⟨_, rfl⟩
  have hFs : Hid (∀ i, F (i + 1) = F i ++ [sha (chnk i ((ls.map (·.2))[i]?.getD []))]) := fun i => by rw [hF]; exact sumsTo_succ _ _
  have hF0 : Hid (F 0 = []) := by rw [hF]; rfl
  have hFl : Hid (∀ i, (F i).length = i) := fun i => by rw [hF]; exact length_sumsTo _ _
  have hFe : Hid (∀ h ∈ F n, h.length = 32) := by rw [hF]; exact sumsTo_el
  rw [← hF]
  clear hF hl hO hn
  have B0 : BufV 35 32 w w [] (.slice none 0 0) 0 [] := BufV.nil H
  clear H
  go_enter Try.func12, Try.ntmps12
  go_wp2_with fail
  go_loopw [3, 4] (fun v3 v4 wr => ∃ i p c, i ≤ n ∧ v4 = .int .i64 ((i : Nat) : Int) ∧ v3 = .slice p i c ∧ BufV 35 32 w wr [] v3 i (hcells (F i))) (fun _ v4 _ => ((n : Int) - intOf v4).toNat)
  case atStart => exact ⟨0, none, 0, by omega, rfl, rfl, by rw [hF0.out]; exact B0⟩
  case round =>
    clear B0 hF0
    obtain ⟨i, p, c, hi, rfl, rfl, B⟩ := hrel
    by_cases hin : i < n
    · obtain ⟨x, hx, hxo, ⟨px, cx, hxs⟩, hxx⟩ := O.out.get (i := i) (by have := hn'.out; omega)
      have hrg := Lib.hid (O.out.el i x hx).2.2
      have hFx := hFs.out i
      rw [hxx] at hFx
      obtain ⟨og, oo, hp0⟩ := O.out.addr (by have := hn'.out; omega)
      subst hp0
      have hcell : Hid (∀ w', Own wr w' [] → w'.cell? ⟨og, oo + (i : Int).toNat * 1, none⟩ = some (.slice px x.2.length cx)) := fun w' h => by rw [← hxs]; exact O.out.cellAt (B.call0 h).own0 (by simp) (by simpa using hx)
      have hxo' : Hid (∀ w', Own wr w' [] → Old w' (.slice px x.2.length cx) x.2) := fun w' h => by rw [← hxs]; exact hxo.mv (B.call0 h).own0 (by simp)
      have hxl := Lib.hid (hl'.out i x hx)
      obtain ⟨ys, hys⟩ : ∃ ys, x.2 = ys := ⟨_, rfl⟩
      rw [hys] at hcell hxo' hFx hxl hrg
      obtain ⟨S, hS⟩ : ∃ S, sha (chnk i ys) = S := ⟨_, rfl⟩
      have hS' := Lib.hid hS
      have lS : Hid (S.length = 32) := hS ▸ length_sha _
      rw [hS] at hFx
      have hFx' : Hid (hcells (F (i + 1)) = hcells (F i) ++ u8s S) := by show _ = _; rw [hFx, hcells_snoc]
      clear hxo hxs hx hys hxx hS hFx
      have hil : i ≤ 4398046511104 := by omega
      have hlc : Hid ((chnk i ys).length ≤ 70368744177664) := by show _ ≤ _; have := hxl.out; have h4 := length_numB (i : Int) 4; unfold chnk; simp; omega
      have hsum : Hid (∀ w' v, BIn (chnk i ys) w' v → Calls Try.prog 19 #[v] w' fun e w'' => e = .returned (.agg (u8s S).toArray) ∧ Own w' w'' []) := fun w' v hB => hS'.out ▸ refSum_any w' v _ hB.2.1 hB.2.2 hlc.out
      have hcat : Hid (∀ w' v, Three [67, 72, 78, 75] (numB (i : Int) 4) ys (.slice px ys.length cx) w' v → Calls Try.prog 20 #[v] w' fun e w'' => ∃ r, e = .returned r ∧ BIn (chnk i ys) w'' r ∧ Own w' w'' []) := fun w' v ⟨v1, v2, hL⟩ => by
        have h := cat_any w' v _ hL (by show (flatL _ 3).length ≤ _; rw [flatL_three]; exact Nat.le_trans hlc.out (by decide)) (by simp)
        rw [show (flatL [(v1, [67, 72, 78, 75]), (v2, numB (i : Int) 4), (Value.slice px ys.length cx, ys)] [(v1, ([67, 72, 78, 75] : List Int)), (v2, numB (i : Int) 4), (Value.slice px ys.length cx, ys)].length) = chnk i ys from flatL_three ..] at h
        exact h
      go_wp2_with fail
      refine region_app 14 (by kernel_rfl) (by kernel_rfl) (by kernel_rfl) [.val (.slice p i c), .rel (NewR wr.heap.size 5 [67, 72, 78, 75]), .mrk (NewR wr.heap.size 5 [67, 72, 78, 75]), .val (.int .i64 i), .val (.int .u64 i), .rel (BIn (numB (i : Int) 4)), .val (.slice (some ⟨og, oo, none⟩) n c0), .val (.int .i64 i), .val (.pointer (some ⟨og, oo + (i : Int).toNat * 1, none⟩)), .val (.slice px ys.length cx),
        .rel (Three [67, 72, 78, 75] (numB (i : Int) 4) ys (.slice px ys.length cx)), .rel (BIn (chnk i ys)), .val (.agg (u8s S).toArray), .rel (OneH S)] rfl ?_ ?_
      · simp only [gAll, mRow, Sq.presM, or_true, true_and, and_true]
        exact ⟨Or.inr (Or.inr NewR.presM), Or.inl trivial, Or.inr (Or.inr BIn.presM), Or.inr (Or.inr fun _ _ _ h ⟨v1, v2, hL⟩ => ⟨v1, v2, h.oldL hL⟩), Or.inr (Or.inr BIn.presM), Or.inr (Or.inr fun _ _ _ h ⟨h1, h2⟩ => ⟨h1, h.sl h2⟩)⟩
      have tok1 : True := trivial
      try go_frame
      repeat (first
        | (clear tok1; refine sq_rel NewR.mono rfl (fun w' hw' _ => lit_new hw' rfl rfl (fun w' => by kernel_rfl)) ?_; intro v12; go_frame; have tok2 : True := trivial)
        | (clear tok2; refine sq_mrk NewR.mono rfl (fun w' hw' hF => conv_mark (v := v12) (hF.2 _ rfl (List.mem_of_elem_eq_true (by kernel_rfl))) rfl rfl rfl rfl) ?_; intro v13; go_frame; have tok3 : True := trivial)
        | (clear tok3; refine sq_callR (args := #[.int .u64 i, .int .i64 4]) (BIn.mono _) rfl rfl (by simp [Act.eval]) Try.func21 (by kernel_rfl) (by kernel_rfl) (fun w' hw' _ => refNum_any w' (i : Int) 4 (by omega) (by omega)) ?_; intro v16; go_frame; have tok4 : True := trivial)
        | (refine sq_run (v := .pointer (some ⟨og, oo + (i : Int).toNat * 1, none⟩)) rfl (fun w' hw' _ => rn_idxSl (j := (i : Int)) rfl rfl size_sl rfl rfl (by omega) (by omega)) ?_; go_frame)
        | (refine sq_run (v := .slice px ys.length cx) rfl (fun w' hw' _ => rn_cell rfl rfl rfl rfl (hcell.out w' hw')) ?_; go_frame)
        | (clear tok4; refine sq_rel (fun w1 w2 v h ⟨v1, v2, hL⟩ => ⟨v1, v2, hL.mv h⟩) rfl (fun w' hw' hF => ?_) ?_
           · have h13 := (hF.1.2 _ rfl (List.mem_of_elem_eq_true (by kernel_rfl))).bin
             have h16 := hF.2 _ rfl (List.mem_of_elem_eq_true (by kernel_rfl))
             obtain ⟨p13, c13, e13⟩ := h13.1
             obtain ⟨p16, c16, e16⟩ := h16.1
             have o13 := h13.old
             have o16 := h16.old
             subst e13 e16
             exact lit_three (e := 25) o13 o16 (hxo'.out w' hw') range_chnk (range_numB _ _) hrg.out rfl (fun w' => by kernel_rfl)
           intro v21; go_frame; have tok5 : True := trivial)
        | (clear tok5; refine sq_callR (args := #[v21]) (BIn.mono _) rfl rfl (by simp [Act.eval]) Try.func20 (by kernel_rfl) (by kernel_rfl) (fun w' hw' hF => hcat.out w' v21 (hF.2 _ rfl (List.mem_of_elem_eq_true (by kernel_rfl)))) ?_; intro v22; go_frame; have tok6 : True := trivial)
        | (clear tok6; refine sq_callN (v := .agg (u8s S).toArray) (args := #[v22]) rfl rfl (by simp [Act.eval]) Try.func19 (by kernel_rfl) (by kernel_rfl) (fun w' hw' hF => hsum.out w' v22 (hF.2 _ rfl (List.mem_of_elem_eq_true (by kernel_rfl)))) ?_; go_frame; have tok7 : True := trivial)
        | (clear tok7; refine sq_rel (fun w1 w2 v h ⟨h1, h2⟩ => ⟨h1, h2.own0 h⟩) rfl (fun w' hw' _ => lit_oneH lS.out rfl (by kernel_rfl)) ?_; intro v24; go_frame)
        | (refine sq_val (fun w' hw' hF => ?_) ⟨_, rfl, Nat.le_of_ble_eq_true rfl⟩ ?_
           · go_big_quiet_step (fail)
             exact rfl
           try go_frame))
      refine sq_nil ?_
      intro w' hw' hF
      obtain ⟨⟨p24, c24, rfl⟩, h24⟩ := hF.2 _ rfl trivial
      have B' := B.call0 hw'
      have h24' := Lib.hid h24
      clear B hw' hF hcell hxo' hcat hsum h24
      simp only [List.drop_succ_cons, List.drop_zero]
      go_wp2_with (refine st_appV (m := 1) (ds := u8s S) rfl B' elem_hash rfl rfl rfl rfl h24'.out (by rw [length_ints, lS.out]) (oneCell_ints _ _) (by omega) (by omega) ?_; clear B'; intro p6 c6 w6 B; rw [← hFx'.out] at B)
      exact ⟨⟨i + 1, _, _, by omega, by go_num, rfl, B⟩, by simp [intOf]; omega⟩
    · obtain rfl : i = n := by omega
      go_wp2_with fail
      have h1 := Lib.hid B.slAt
      have h2 := Lib.hid B.lt
      have h3 := Lib.hid B.own0
      clear B
      go_ret
      exact ⟨_, rfl, ⟨by rw [hFl.out]; exact h1.out, h2.out, hFe.out⟩, h3.out⟩

end Go.Proofs.Ytjcnhpnadfhjaaa
