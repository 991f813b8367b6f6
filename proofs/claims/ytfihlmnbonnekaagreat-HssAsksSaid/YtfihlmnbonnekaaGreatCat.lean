/- chirographref1: Num, Cat, Same. -/
import Derived.Test.YtfihlmnbonnekaaGreatLow
import Derived.Test.YtfihlmnbonnekaaGreatMa
import Derived.Lib.Bytes
namespace Go.Proofs.YtfihlmnbonnekaaGreat
open Go.RowKit Go.Lib
set_option maxHeartbeats 32000000
set_option maxRecDepth 100000 in
theorem refNum_any (w : World) (x : Int) (m : Nat) (hm0 : 0 < m) (hm8 : m ≤ 8) :
 Calls Tryz.prog 42 #[.int .u64 x, .int .i64 m] w fun e w' => ∃ r, e = .returned r ∧ BIn (numB x m) w' r ∧ Own w w' [] := by
 have H := Own.refl w
 have hstep : Hid (∀ i, i < m → (numB x m).take (m - (i + 1)) ++ [x / 2 ^ (8 * i) % 256] = (numB x m).take (m - i)) := fun i hi => numB_step hi
 have hlen := Hh (length_numB x m)
 obtain ⟨nb, hnb⟩ : ∃ nb, numB x m = nb := ⟨_, rfl⟩
 rw [hnb] at hstep hlen ⊢
 clear hnb
 have B : Buf 5 .u8 w w [] (.slice none 0 0) [] := Buf.nil H
 clear H
 go_enter Tryz.func42, Tryz.ntmps42
 go_wp2_with fail
 go_loopw [5, 6] (fun v5 v6 wr => ∃ i p c, i ≤ m ∧ v6 = .int .i64 ((i : Int) - 1) ∧ v5 = .slice p (m - i) c ∧ Buf 5 .u8 w wr [] v5 (nb.take (m - i))) (fun _ v6 _ => (intOf v6 + 2).toNat)
 case atStart => exact ⟨m, none, 0, by omega, rfl, by simp, by simpa using B⟩
 case round =>
  clear B
  obtain ⟨i, p0, c0, hi, rfl, rfl, B⟩ := hrel
  by_cases hi0 : 0 < i
  · obtain ⟨j, rfl⟩ : ∃ j, i = j + 1 := ⟨i - 1, by omega⟩
    have hj : ((j + 1 : Nat) : Int) - 1 = (j : Int) := by omega
    rw [hj]
    have hl2 : Hid ((nb.take (m - (j + 1))).length = m - (j + 1)) := by show _ = _; have := hlen.out; simp; omega
    have hsum : Hid (m - (j + 1) + 1 = m - j) := by show _ = _; omega
    have hst := Hh (hstep.out j (by omega))
    have hle : m - (j + 1) ≤ 8 := by omega
    clear hj
    go_wp2_with (first
     | (refine st_lit rfl B rfl (cs := u8s [x / 2 ^ (8 * j) % 256]) (el := 5) (fun w' => by kernel_rfl) ?_; clear B; intro b2 w5 hb2 B)
     | (refine st_app (ys := [x / 2 ^ (8 * j) % 256]) rfl B elem_u8 rfl rfl rfl rfl (B.litAt (.head _) rfl) (by rw [hl2.out]; simp; omega) (by rw [hl2.out]; simp; omega) ?_; clear B; intro p6 c6 w6 B; rw [hst.out, hl2.out] at B; rw [hl2.out]; have B2 := B.pop hb2; clear B; have B := B2; clear B2))
    exact ⟨⟨j, p6, c6, by omega, by go_num, by rw [← hsum.out], B⟩, by simp [intOf]; omega⟩
  · obtain rfl : i = 0 := by omega
    have he : Hid (nb.take (m - 0) = nb) := List.take_of_length_le (by rw [hlen.out]; omega)
    rw [he.out] at B
    have hlen2 : Hid (m - 0 = nb.length) := by show _ = _; rw [hlen.out]; rfl
    rw [hlen2.out] at B ⊢
    go_wp2_with fail
    have h1 := Hh B.bytesAt
    have h2 := Hh B.lt
    have h3 := Hh B.own0
    clear B
    go_ret
    exact ⟨_, rfl, ⟨⟨_, _, rfl⟩, h1.out, h2.out⟩, h3.out⟩
theorem OldL.addr' {w : World} {v : Value} {ls : List (Value × List Int)} (h : OldL w v ls) : ∃ p c, v = .slice p ls.length c := by
 rcases h.sl with ⟨⟨p, rfl⟩, h0, _⟩ | ⟨b, off, cap, rfl, _, _⟩
 · exact ⟨p, 0, by rw [h0]⟩
 · exact ⟨_, _, rfl⟩
def flatL (ls : List (Value × List Int)) (i : Nat) : List Int := (ls.take i).flatMap (·.2)
theorem flatL_succ {ls : List (Value × List Int)} {i : Nat} {x : Value × List Int} (h : ls[i]? = some x) : flatL ls (i + 1) = flatL ls i ++ x.2 := by
 obtain ⟨hi, hx⟩ := List.getElem?_eq_some_iff.1 h
 unfold flatL
 rw [List.take_succ_eq_append_getElem hi, List.flatMap_append, hx]
 simp
theorem flatL_le (ls : List (Value × List Int)) (i : Nat) : (flatL ls i).length ≤ (flatL ls ls.length).length := by
 unfold flatL
 rw [List.take_of_length_le (Nat.le_refl _)]
 have : ls.flatMap (·.2) = (ls.take i).flatMap (·.2) ++ (ls.drop i).flatMap (·.2) := by rw [← List.flatMap_append, List.take_append_drop]
 rw [this, List.length_append]; omega
set_option maxRecDepth 100000 in
theorem catB_any (w : World) (v : Value) (ls : List (Value × List Int)) (hO : OldL w v ls) (hl : (flatL ls ls.length).length ≤ 140737488355000) (hn9 : ls.length ≤ 140737488355000) :
 Calls Tryz.prog 41 #[v] w fun e w' => ∃ r, e = .returned r ∧ Buf 5 .u8 w w' [] r (flatL ls ls.length) := by
 have H := Own.refl w
 obtain ⟨p0, c0, rfl⟩ := hO.addr'
 obtain ⟨n, hn⟩ : ∃ n, n = ls.length := ⟨_, rfl⟩
 rw [← hn] at hl hO hn9 ⊢
 have O := Hh hO
 have hn' := Hh hn
 obtain ⟨F, hF⟩ : ∃ F, F = flatL ls := ⟨_, rfl⟩
 have hFs : Hid (∀ i x, ls[i]? = some x → F (i + 1) = F i ++ x.2) := fun i x hx => by rw [hF]; exact flatL_succ hx
 have hF0 : Hid (F 0 = []) := by rw [hF]; rfl
 have hFl : Hid (∀ i, (F i).length ≤ 140737488355000) := fun i => by rw [hF]; refine Nat.le_trans (flatL_le ls i) ?_; rw [← hn]; exact hl
 rw [← hF]
 clear hF hl hO hn
 have B0 : Buf 5 .u8 w w [] (.slice none 0 0) [] := Buf.nil H
 clear H
 go_enter Tryz.func41, Tryz.ntmps41
 go_wp2_with fail
 go_loopw [3, 4] (fun v3 v4 wr => ∃ i p c, i ≤ n ∧ v4 = .int .i64 ((i : Nat) : Int) ∧ v3 = .slice p (F i).length c ∧ Buf 5 .u8 w wr [] v3 (F i)) (fun _ v4 _ => ((n : Int) - intOf v4).toNat)
 case atStart => exact ⟨0, none, 0, by omega, rfl, by rw [hF0.out]; rfl, by rw [hF0.out]; exact B0⟩
 case round =>
  clear B0 hF0
  obtain ⟨i, p, c, hi, rfl, rfl, B⟩ := hrel
  by_cases hin : i < n
  · obtain ⟨x, hx⟩ : ∃ x, ls[i]? = some x := ⟨_, List.getElem?_eq_getElem (by have := hn'.out; omega)⟩
    obtain ⟨hxo, ⟨px, cx, hxs⟩, _⟩ := O.out.el i x hx
    have hFx := Hh (hFs.out i x hx)
    obtain ⟨og, oo, hp0⟩ := O.out.addr (by have := hn'.out; omega)
    subst hp0
    have hcell : Hid (∀ w1 L1, Own w w1 L1 → (∀ b ∈ L1.map (·.1), w.heap.size ≤ b) → w1.cell? ⟨og, oo + (i : Int).toNat * 1, none⟩ = some (.slice px x.2.length cx)) := fun w1 L1 h1 h2 => by rw [← hxs]; exact O.out.cellAt h1 h2 (by simpa using hx)
    have hxo' : Hid (∀ w1 L1, Own w w1 L1 → (∀ b ∈ L1.map (·.1), w.heap.size ≤ b) → BytesAt w1 (.slice px x.2.length cx) x.2) := fun w1 L1 h1 h2 => by rw [← hxs]; exact hxo.at h1 h2
    have hl3 := Hh (hFl.out (i + 1))
    have hl4 : Hid ((F (i + 1)).length = (F i).length + x.2.length) := by show _ = _; rw [hFx.out, List.length_append]
    obtain ⟨ys, hys⟩ : ∃ ys, x.2 = ys := ⟨_, rfl⟩
    rw [hys] at hcell hxo' hFx hl4
    clear hxo hxs hx hys
    go_wp2_with (first
     | (refine st_val rfl (rn_idxSl (j := (i : Int)) rfl rfl size_sl rfl rfl (by omega) (by omega)) ?_)
     | (refine st_val rfl (rn_cell (i := oo + (i : Int).toNat * 1) rfl rfl rfl rfl (hcell.out _ _ B.own0 (by simp))) ?_)
     | (refine st_app (ys := ys) rfl B elem_u8 rfl rfl rfl rfl (hxo'.out _ _ B.own0 (by simp)) (by have := hl3.out; have := hl4.out; omega) (by have := hl3.out; have := hl4.out; omega) ?_; clear B; intro p6 c6 w6 B; rw [← hl4.out]; rw [← hl4.out, ← hFx.out] at B))
    exact ⟨⟨i + 1, _, _, by omega, by go_num, rfl, B⟩, by simp [intOf]; omega⟩
  · obtain rfl : i = n := by omega
    go_wp2_with fail
    have B2 := Hh B
    clear B
    go_ret
    exact ⟨_, rfl, B2.out⟩
theorem cat_any (w : World) (v : Value) (ls : List (Value × List Int)) (hO : OldL w v ls) (hl : (flatL ls ls.length).length ≤ 140737488355000) (hn9 : ls.length ≤ 140737488355000) :
 Calls Tryz.prog 41 #[v] w fun e w' => ∃ r, e = .returned r ∧ BIn (flatL ls ls.length) w' r ∧ Own w w' [] :=
 (catB_any w v ls hO hl hn9).mono fun _ _ ⟨r, h1, h2⟩ => ⟨r, h1, ⟨h2.slice, h2.bytesAt, h2.lt⟩, h2.own0⟩
set_option maxRecDepth 100000 in
theorem same_any (w : World) (v1 v2 : Value) (xs ys : List Int) (h1 : BytesAt w v1 xs) (h2 : BytesAt w v2 ys) (hx : ∀ i, i < xs.length → 0 ≤ xs[i]?.getD 0 ∧ xs[i]?.getD 0 < 256) (hy : ∀ i, i < ys.length → 0 ≤ ys[i]?.getD 0 ∧ ys[i]?.getD 0 < 256) :
 Calls Tryz.prog 11 #[v1, v2] w fun e w' => e = .returned (.bool (decide (xs = ys))) ∧ Own w w' [] := by
 have H := Own.refl w
 have c1 : (convert 27 9 v1).run Tryz.prog w = .ok (.string (strOfNums xs)) w := run_toStr (e := 5) rfl rfl rfl h1
 have c2 : (convert 27 9 v2).run Tryz.prog w = .ok (.string (strOfNums ys)) w := run_toStr (e := 5) rfl rfl rfl h2
 have hsh1 : ∃ p c, v1 = .slice p xs.length c := by
  rcases h1.cell with ⟨⟨p, rfl⟩, rfl⟩ | ⟨b, off, cap, rfl, _, _⟩
  · exact ⟨p, 0, rfl⟩
  · exact ⟨_, _, rfl⟩
 have hsh2 : ∃ p c, v2 = .slice p ys.length c := by
  rcases h2.cell with ⟨⟨p, rfl⟩, rfl⟩ | ⟨b, off, cap, rfl, _, _⟩
  · exact ⟨p, 0, rfl⟩
  · exact ⟨_, _, rfl⟩
 obtain ⟨p1, q1, rfl⟩ := hsh1
 obtain ⟨p2, q2, rfl⟩ := hsh2
 have hxy : Hid (((strOfNums xs).toList == (strOfNums ys).toList) = decide (xs = ys)) := by
  show _ = _
  rw [strOfNums_toList, strOfNums_toList, Bool.eq_iff_iff, beq_iff_eq, decide_eq_true_eq]
  refine ⟨fun hd => ?_, fun h => by rw [h]⟩
  unfold bytesOf at hd
  have hlen : xs.length = ys.length := by simpa using congrArg List.length hd
  apply List.ext_getElem hlen
  intro i h3 h4
  have := congrArg (fun l => l[i]?) hd
  simp [h3, h4] at this
  have a1 := hx i h3
  have a2 := hy i h4
  simp [h3, h4] at a1 a2
  have := congrArg UInt8.toNat this
  simp at this
  omega
 clear h1 h2 hx hy
 go_enter Tryz.func11, Tryz.ntmps11
 go_wp2_with fail
 rw [hxy.out]
 go_ret
 exact ⟨rfl, H⟩
end Go.Proofs.YtfihlmnbonnekaaGreat
