/- chunk.sum, chunk.Sums; the reference's Sums. -/
import Derived.Test.YtjcnhpnadfhjaaaPack
import Derived.Test.YtjcnhpnadfhjaaaCat
import Derived.Test.YtjcnhpnadfhjaaaRef4
namespace Go.Proofs.Ytjcnhpnadfhjaaa
open Go.RowKit

/-- what a piece's sum is of -/
def chnk (i : Nat) (bs : List Int) : List Int := [67, 72, 78, 75] ++ numB (i : Int) 4 ++ bs

theorem info_writer : ((Try.prog.info? 50).bind (·.zero)).map (fun z => z.cells.toList) = some [.slice none 0 0] := by kernel_rfl

set_option maxRecDepth 100000 in
set_option maxHeartbeats 1000000 in
theorem csum_any (w : World) (i : Nat) (hi : i ≤ 4611686018427387904) (v : Value) (bs : List Int) (hO : Old w v bs) (hl : bs.length ≤ 140737488351000) :
    Calls Try.prog 16 #[.int .i64 i, v] w fun e w' => e = .returned (.agg (u8s (sha (chnk i bs))).toArray) ∧ Own w w' [] := by
  have H := Own.refl w
  obtain ⟨pv, cv, rfl⟩ := hO.shape
  have O := Lib.hid hO
  have hl' := Lib.hid hl
  have hS : Hid ([] ++ [67, 72, 78, 75] ++ numB (i : Int) 4 ++ bs = chnk i bs) := rfl
  have hn4 := Lib.hid (length_numB (i : Int) 4)
  obtain ⟨S, hSS⟩ : ∃ S, sha (chnk i bs) = S := ⟨_, rfl⟩
  have hSS' := Lib.hid hSS
  have lS : Hid ((u8s S).length = 32) := by show _ = _; rw [← hSS, length_ints]; rfl
  have hsz : Hid ((Try.prog.info? 35).map (·.size) = some (u8s S).length) := by show _ = _; rw [lS.out]; exact size_hash
  rw [hSS]
  obtain ⟨nb, hnb⟩ : ∃ nb, numB (i : Int) 4 = nb := ⟨_, rfl⟩
  rw [hnb] at hS hn4
  have hnb' := Lib.hid hnb
  have hll : Hid ((chnk i bs).length = 8 + bs.length) := by show _ = _; unfold chnk; rw [hnb]; have := hn4.out; simp; omega
  clear hO hl hSS hnb
  have tok1 : True := trivial
  go_enter Try.func16, Try.ntmps16
  go_wp2_with (first
    | (clear tok1; refine st_new rfl (rn_alloc H rfl info_hash) ?_; clear H; intro r w1 hr1 H; have tok2 : True := trivial)
    | (clear tok2; refine st_new rfl (rn_alloc H rfl info_writer) ?_; clear H; intro wb w2 hb1 H; have tok3 : True := trivial)
    | (clear tok3; refine st_new rfl (rn_buildSlice (e := 5) (cs := u8s [67, 72, 78, 75]) H rfl (fun w' => by kernel_rfl)) ?_; clear H; intro b w4 hb H; have tok4 : True := trivial)
    | (clear tok4; refine st_conv rfl H hb rfl rfl rfl rfl rfl ?_; intro w5 hby hlt H5; clear H hb; have B : Buf 5 .u8 w w5 [(wb, [.slice none 0 0], 50), (r, u8s (List.replicate 32 0), 35)] (.slice none 0 0) [] := Buf.nil H5; clear H5; have tok5 : True := trivial)
    | (clear tok5; go_at_call 22; refine (raw_any w _ _ wb _ [] B _ [67, 72, 78, 75] hby (by simp)).mono ?_; clear B hby hlt; rintro e w6 ⟨rfl, v6, B⟩; have tok6 : True := trivial)
    | (clear tok6; go_at_call 23; refine (num_any w _ _ wb _ _ B (i : Int) 4 (by omega) (by omega) (by simp)).mono ?_; clear B; rintro e w7 ⟨rfl, v7, B⟩; rw [hnb'.out] at B; have tok7 : True := trivial)
    | (clear tok7; go_at_call 22; refine (raw_any w _ _ wb _ _ B _ bs (O.out.at B.own0 (by simp; omega)) (by have := hl'.out; have := hn4.out; simp; omega)).mono ?_; clear B; rintro e w8 ⟨rfl, v8, B⟩; rw [hS.out] at B; have tok8 : True := trivial)
    | (clear tok8; go_at_call 25; refine (bytes_any _ wb _ _ (B.sub1 (.head _)) B.bytesAt B.lt (by rw [hll.out]; have := hl'.out; omega)).mono ?_; rintro e w9 ⟨rr, rfl, ⟨⟨p9, c9, rfl⟩, hr2, hr3⟩, h3⟩; have H := (B.call0 h3).own0; clear B h3; have tok9 : True := trivial)
    | (clear tok9; go_at_call 24; refine (shaSum_any _ _ (chnk i bs) hr2 hr3 (by rw [hll.out]; have := hl'.out; omega)).mono ?_; rintro e w10 ⟨rfl, h3⟩; rw [hSS'.out]; have H2 := H.call0 h3; clear H h3 hr2 hr3; have H := H2; clear H2)
    | (refine st_skip rfl (rn_storeAll H rfl rfl rfl hsz.out (.tail .head) (by rw [lS.out]; rfl) (oneCell_ints _ _)) ?_; clear H; intro w11 H))
  refine fin_cell rfl H rfl (.tail _ (.head _)) rfl rfl hsz.out rfl ⟨rfl, H.end0 (by simp; omega)⟩

/-- hashes, one behind the other -/
def hcells (hs : List (List Int)) : List Value := hs.flatMap u8s

/-- a slice of hashes that was there -/
structure OldH (w : World) (v : Value) (hs : List (List Int)) : Prop where
  sl : SlAt w v hs.length (hcells hs)
  lt : ∀ k, blk v = some k → k < w.heap.size
  el : ∀ h ∈ hs, h.length = 32

theorem list32 : ∀ S : List Int, S.length = 32 → ∃ a0 a1 a2 a3 a4 a5 a6 a7 a8 a9 a10 a11 a12 a13 a14 a15 a16 a17 a18 a19 a20 a21 a22 a23 a24 a25 a26 a27 a28 a29 a30 a31, S = [a0, a1, a2, a3, a4, a5, a6, a7, a8, a9, a10, a11, a12, a13, a14, a15, a16, a17, a18, a19, a20, a21, a22, a23, a24, a25, a26, a27, a28, a29, a30, a31]
  | [_, _, _, _, _, _, _, _, _, _, _, _, _, _, _, _, _, _, _, _, _, _, _, _, _, _, _, _, _, _, _, _], _ => ⟨_, _, _, _, _, _, _, _, _, _, _, _, _, _, _, _, _, _, _, _, _, _, _, _, _, _, _, _, _, _, _, _, rfl⟩

theorem litHash {S : List Int} (hS : S.length = 32) {parts : Array (Nat × Value)} (hp : parts = #[(0, .agg (u8s S).toArray)]) (w' : World) : (Instr.buildSlice 28 1 parts).run Try.prog w' = .ok (.slice (some ⟨w'.heap.size, 0, none⟩) 1 1) (w'.alloc (.cells (u8s S).toArray 35)) := by
  subst hp
  obtain ⟨a0, a1, a2, a3, a4, a5, a6, a7, a8, a9, a10, a11, a12, a13, a14, a15, a16, a17, a18, a19, a20, a21, a22, a23, a24, a25, a26, a27, a28, a29, a30, a31, rfl⟩ := list32 S hS
  kernel_rfl

theorem elem_hash : Elem Try.prog 35 32 32 := Elem.of (by kernel_rfl) (by decide)

/-- the sums of pieces up to one -/
def sumsTo (bss : List (List Int)) (i : Nat) : List (List Int) := (List.range i).map fun j => sha (chnk j (bss[j]?.getD []))

theorem length_sumsTo (bss : List (List Int)) (i : Nat) : (sumsTo bss i).length = i := by simp [sumsTo]
theorem sumsTo_succ (bss : List (List Int)) (i : Nat) : sumsTo bss (i + 1) = sumsTo bss i ++ [sha (chnk i (bss[i]?.getD []))] := by simp [sumsTo, List.range_succ]
theorem hcells_snoc (hs : List (List Int)) (h : List Int) : hcells (hs ++ [h]) = hcells hs ++ u8s h := by simp [hcells]
theorem sumsTo_el {bss : List (List Int)} {i : Nat} : ∀ h ∈ sumsTo bss i, h.length = 32 := by
  intro h hh
  simp only [sumsTo, List.mem_map] at hh
  obtain ⟨j, _, rfl⟩ := hh
  exact length_sha _
theorem oneCell_hcells (hs : List (List Int)) : ∀ v ∈ hcells hs, v.oneCell' = true := by
  intro v hv
  simp only [hcells, List.mem_flatMap] at hv
  obtain ⟨h, _, hv⟩ := hv
  exact oneCell_ints _ _ v hv

theorem OldL.get {w : World} {v : Value} {ls : List (Value × List Int)} (h : OldL w v ls) {i : Nat} (hi : i < ls.length) : ∃ x, ls[i]? = some x ∧ Old w x.1 x.2 ∧ (∃ p c, x.1 = .slice p x.2.length c) ∧ (ls.map (·.2))[i]?.getD [] = x.2 := by
  refine ⟨ls[i], List.getElem?_eq_getElem hi, (h.el i _ (List.getElem?_eq_getElem hi)).1, (h.el i _ (List.getElem?_eq_getElem hi)).2.1, by simp [hi]⟩

set_option maxRecDepth 100000 in
set_option maxHeartbeats 1000000 in
theorem csums_any (w : World) (v : Value) (ls : List (Value × List Int)) (hO : OldL w v ls) (hn9 : ls.length ≤ 4398046511104) (hl : ∀ (i : Nat) (x : Value × List Int), ls[i]? = some x → x.2.length ≤ 140737488351000) :
    Calls Try.prog 8 #[v] w fun e w' => ∃ r, e = .returned r ∧ OldH w' r (sumsTo (ls.map (·.2)) ls.length) ∧ Own w w' [] := by
  have H := Own.refl w
  obtain ⟨p0, c0, rfl⟩ := hO.addr'
  obtain ⟨n, hn⟩ : ∃ n, n = ls.length := ⟨_, rfl⟩
  rw [← hn] at hO hn9 ⊢
  have O := Lib.hid hO
  have hl' := Lib.hid hl
  have hn' := Lib.hid hn
  obtain ⟨F, hF⟩ : ∃ F, F = sumsTo (ls.map (·.2)) := ⟨_, rfl⟩
  have hFs : Hid (∀ i, F (i + 1) = F i ++ [sha (chnk i ((ls.map (·.2))[i]?.getD []))]) := fun i => by rw [hF]; exact sumsTo_succ _ _
  have hF0 : Hid (F 0 = []) := by rw [hF]; rfl
  have hFl : Hid (∀ i, (F i).length = i) := fun i => by rw [hF]; exact length_sumsTo _ _
  have hFe : Hid (∀ h ∈ F n, h.length = 32) := by rw [hF]; exact sumsTo_el
  rw [← hF]
  clear hF hl hO hn
  have B0 : BufV 35 32 w w [] (.slice none 0 0) 0 [] := BufV.nil H
  clear H
  go_enter Try.func8, Try.ntmps8
  go_wp2_with fail
  go_loopw [3, 4, 5, 8] (fun v3 _ _ v8 wr => ∃ i p c, i ≤ n ∧ v8 = .int .i64 ((i : Nat) : Int) ∧ v3 = .slice p i c ∧ BufV 35 32 w wr [] v3 i (hcells (F i))) (fun _ _ _ v8 _ => ((n : Int) - intOf v8).toNat)
  case atStart => exact ⟨0, none, 0, by omega, rfl, rfl, by rw [hF0.out]; exact B0⟩
  case round =>
    clear B0 hF0
    obtain ⟨i, p, c, hi, rfl, rfl, B⟩ := hrel
    by_cases hin : i < n
    · obtain ⟨x, hx, hxo, ⟨px, cx, hxs⟩, hxx⟩ := O.out.get (i := i) (by have := hn'.out; omega)
      have hFx := hFs.out i
      rw [hxx] at hFx
      obtain ⟨og, oo, hp0⟩ := O.out.addr (by have := hn'.out; omega)
      subst hp0
      have hcell : Hid (∀ w1 L1, Own w w1 L1 → (∀ b ∈ L1.map (·.1), w.heap.size ≤ b) → w1.cell? ⟨og, oo + (i : Int).toNat * 1, none⟩ = some (.slice px x.2.length cx)) := fun w1 L1 h1 h2 => by rw [← hxs]; exact O.out.cellAt h1 h2 (by simpa using hx)
      have hxo' : Hid (∀ w1 L1, Own w w1 L1 → (∀ b ∈ L1.map (·.1), w.heap.size ≤ b) → Old w1 (.slice px x.2.length cx) x.2) := fun w1 L1 h1 h2 => by rw [← hxs]; exact hxo.mv h1 h2
      have hxl := Lib.hid (hl'.out i x hx)
      obtain ⟨ys, hys⟩ : ∃ ys, x.2 = ys := ⟨_, rfl⟩
      rw [hys] at hcell hxo' hFx hxl
      obtain ⟨S, hS⟩ : ∃ S, sha (chnk i ys) = S := ⟨_, rfl⟩
      have hS' := Lib.hid hS
      have lS : Hid (S.length = 32) := hS ▸ length_sha _
      rw [hS] at hFx
      have hFx' : Hid (hcells (F (i + 1)) = hcells (F i) ++ u8s S) := by show _ = _; rw [hFx, hcells_snoc]
      clear hxo hxs hx hys hxx hS hFx
      have hil : i ≤ 4398046511104 := by omega
      go_wp2_with (first
        | (refine st_val rfl (rn_idxSl (j := (i : Int)) rfl rfl size_sl rfl rfl (by omega) (by omega)) ?_)
        | (refine st_val rfl (rn_cell (i := oo + (i : Int).toNat * 1) rfl rfl rfl rfl (hcell.out _ _ B.own0 (by simp))) ?_)
        | (go_at_call 16; refine (csum_any _ i (by omega) _ ys (hxo'.out _ _ B.own0 (by simp)) hxl.out).mono ?_; rintro e w3 ⟨rfl, h3⟩; rw [hS'.out]; have B2 := B.call0 h3; clear B h3; have B := B2; clear B2)
        | (refine st_litV rfl B rfl (ds := u8s S) (el := 35) (litHash lS.out (by kernel_rfl)) ?_; clear B; intro b2 w5 hb2 B)
        | (refine st_appV (m := 1) (ds := u8s S) rfl B elem_hash rfl rfl rfl rfl (B.litAt (.head _) (by omega)) (by rw [length_ints, lS.out]) (oneCell_ints _ _) (by omega) (by omega) ?_; clear B; intro p6 c6 w6 B; rw [← hFx'.out] at B; have B2 := B.pop hb2; clear B; have B := B2; clear B2))
      exact ⟨⟨i + 1, _, _, by omega, by go_num, rfl, B⟩, by simp [intOf]; omega⟩
    · obtain rfl : i = n := by omega
      go_wp2_with fail
      have h1 := Lib.hid B.slAt
      have h2 := Lib.hid B.lt
      have h3 := Lib.hid B.own0
      clear B
      go_ret
      exact ⟨_, rfl, ⟨by rw [hFl.out]; exact h1.out, h2.out, hFe.out⟩, h3.out⟩

end Go.Proofs.Ytjcnhpnadfhjaaa
