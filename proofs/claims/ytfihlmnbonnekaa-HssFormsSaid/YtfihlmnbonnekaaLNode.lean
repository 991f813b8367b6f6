/- lms: node, New, Size. -/
import Derived.Test.YtfihlmnbonnekaaLPlain
import Derived.Test.YtfihlmnbonnekaaLTyp
import Derived.Great.FillDense
namespace Go.Proofs.Ytfihlmnbonnekaa
open Go.RowKit

/-- what a struct literal holds: each part where its field stands -/
def fillL (places : List (Nat × Nat)) : List Value → List (Nat × List Value) → Option (List Value)
  | cs, [] => some cs
  | cs, (i, vs) :: r => match places[i]? with
    | some (off, sz) => if vs.length = sz ∧ off + sz ≤ cs.length then fillL places (splice cs off vs) r else none
    | none => none
theorem fillL_cons {places : List (Nat × Nat)} {cs vs cs' : List Value} {i off : Nat} {r : List (Nat × List Value)} {x : List Value} (hp : places[i]? = some (off, vs.length)) (h2 : off + vs.length ≤ cs.length) (hs : splice cs off vs = cs') (h : fillL places cs' r = some x) : fillL places cs ((i, vs) :: r) = some x := by
  unfold fillL
  rw [hp]
  simp only [true_and]
  rw [if_pos h2, hs]
  exact h
theorem foldl_splice (off : Nat) : ∀ (vs : List Value) (s : Nat) (cs : Array Value), off + s + vs.length ≤ cs.size → (vs.toArray.zipIdx s).foldl (fun cs (x : Value × Nat) => cs.setIfInBounds (off + x.2) x.1) cs = (splice cs.toList (off + s) vs).toArray
  | vs, s, cs, h => by
    obtain ⟨h1, h2⟩ := Go.Great.foldl_set off vs s cs
    have e : (vs.toArray.zipIdx s).foldl (fun cs (x : Value × Nat) => cs.setIfInBounds (off + x.2) x.1) cs = (vs.zipIdx s).foldl (fun cs (x : Value × Nat) => cs.setIfInBounds (off + x.2) x.1) cs := by
      rw [← Array.foldl_toList, Array.toList_zipIdx]
    rw [e]
    apply Array.ext_getElem?
    intro k
    rw [h2 k]
    unfold splice
    rw [show (List.take (off + s) cs.toList ++ (vs ++ List.drop (off + s + vs.length) cs.toList)).toArray[k]? = (List.take (off + s) cs.toList ++ (vs ++ List.drop (off + s + vs.length) cs.toList))[k]? by simp]
    by_cases hk : k < off + s
    · rw [if_neg (by omega), List.getElem?_append_left (by simp; omega), List.getElem?_take_of_lt hk]
      simp
    · rw [List.getElem?_append_right (by simp; omega), List.length_take, Nat.min_eq_left (by simp; omega)]
      by_cases hl : k < off + s + vs.length
      · rw [if_pos ⟨by omega, hl, by omega⟩, List.getElem?_append_left (by omega)]
      · rw [if_neg (by omega), List.getElem?_append_right (by omega), List.getElem?_drop]
        simp only [Array.getElem?_toList]
        congr 1
        omega
theorem fill_fillL {place : Nat → Option (Nat × Nat)} {places : List (Nat × Nat)} (hpl : ∀ i, place i = places[i]?) : ∀ (parts : List (Nat × Value)) (cs r : List Value), fillL places cs (parts.map fun x => (x.1, x.2.cells.toList)) = some r → Instr.fill place cs.toArray parts = some r.toArray
  | [], cs, r, h => by
    simp only [List.map_nil, fillL, Option.some.injEq] at h
    subst h
    rfl
  | (i, v) :: parts, cs, r, h => by
    simp only [List.map_cons, fillL] at h
    unfold Instr.fill
    rw [hpl i]
    cases hp : places[i]? with
    | none => rw [hp] at h; cases h
    | some p =>
      obtain ⟨off, sz⟩ := p
      rw [hp] at h
      simp only at h ⊢
      split at h
      · rename_i hc
        obtain ⟨h1, h2⟩ := hc
        rw [if_neg (by simp at h1 ⊢; omega)]
        have e := foldl_splice off v.cells.toList 0 cs.toArray (by simp at h1 ⊢; omega)
        simp only [Array.toArray_toList, Nat.add_zero] at e
        rw [e]
        exact fill_fillL hpl parts _ r h
      · cases h

section
variable {P : Program} {rest : List Oper} {o : Oper} {a : Act} {w : World}
/-- a struct's literal -/
theorem rn_buildS {t : TypeId} {parts : Array (Nat × Operand)} (ho : o.op = .build t parts) {fields : Array Field} (hu : P.underlying t = some (.struct fields)) {zs : List Value} (hz : ((P.info? t).bind (·.zero)).map (fun z => z.cells.toList) = some zs)
    {places : List (Nat × Nat)} (hp : fields.toList.mapM (fun f => (P.info? f.type).map fun i => (f.offset, i.size)) = some places) {r : List Value} (hf : fillL places zs (parts.toList.map fun x => (x.1, (a.eval x.2).cells.toList)) = some r) :
    (execOp a.eval o).run P w = .ok (.value (.agg r.toArray)) w := by
  refine rn_build ho ?_
  unfold Program.built
  cases hi : P.info? t with
  | none => rw [hi] at hz; cases hz
  | some it =>
    rw [hi] at hz
    cases hz0 : it.zero with
    | none => simp [hz0] at hz
    | some z =>
      simp [hz0] at hz
      rw [hu]
      simp only [hp, hz0]
      have h := fill_fillL (place := (places.toArray[·]?)) (places := places) (fun i => by simp) (parts.toList.map fun x => (x.1, a.eval x.2)) zs r (by rw [List.map_map]; exact hf)
      rw [← hz] at h
      rw [show (parts.map fun (i, x) => (i, a.eval x)).toList = parts.toList.map fun x => (x.1, a.eval x.2) by simp]
      simpa using h
end

set_option maxRecDepth 100000 in
set_option maxHeartbeats 4000000 in
theorem node_any (w : World) (id : List Int) (h16 : id.length = 16) (q n : Nat) (hq : q < 4294967296) (hn : n < 65536) (v : Value) (ls : List (List Int)) (hv : LitL ls w v) (hl : ls.flatten.length ≤ 200000) (hl9 : ls.length ≤ 1000) :
    Calls Try.prog 55 #[.agg (u8s id).toArray, .int .i64 q, .int .i64 n, v] w fun e w' => e = .returned (.agg (u8s (sha (hashIn id q n ls))).toArray) ∧ Own w w' [] := by
  have H := Own.refl w
  obtain ⟨l, hO, hls⟩ := hv
  have hlen : l.length = ls.length := by rw [← hls, List.length_map]
  obtain ⟨pv, cv, rfl⟩ := hO.addr'
  have O := Lib.hid hO
  obtain ⟨m, hm⟩ : ∃ m, m = l.length := ⟨_, rfl⟩
  rw [← hm] at O hlen ⊢
  have hm' := Lib.hid hm
  have h16' := Lib.hid h16
  have hm9 : m ≤ 1000 := by omega
  obtain ⟨A, hA⟩ : ∃ A, A = frontq id q ++ numB n 2 := ⟨_, rfl⟩
  have hAl : Hid (A.length = 22) := by show _ = _; rw [hA, List.length_append, length_frontq h16, length_numB]
  have hA1 : Hid ([] ++ id ++ numB q 4 ++ numB n 2 = A) := by show _ = _; rw [hA]; rfl
  have hfin : Hid (A ++ flatL l m = hashIn id q n ls) := by show _ = _; rw [hm, LitL.flat hls, hA]; rfl
  have hfl : Hid (∀ i, (flatL l i).length ≤ 200000) := fun i => Nat.le_trans (flatL_le l i) (by rw [LitL.flat hls]; exact hl)
  have hfs : Hid (∀ i x, l[i]? = some x → flatL l (i + 1) = flatL l i ++ x.2) := fun i x h => flatL_succ h
  have hf0 : Hid (flatL l 0 = []) := rfl
  obtain ⟨Z, hZ⟩ : ∃ Z, Z = hashIn id q n ls := ⟨_, rfl⟩
  rw [← hZ] at hfin ⊢
  obtain ⟨F, hF⟩ : ∃ F, F = flatL l := ⟨_, rfl⟩
  rw [← hF] at hfin hfl hfs hf0
  have hZl : Hid (Z.length ≤ 200022) := by show _ ≤ _; rw [← hfin.out, List.length_append, hAl.out]; have := hfl.out m; omega
  clear hO hls hlen hl hl9 hm h16 hA hZ hF
  go_enter Try.func55, Try.ntmps55
  have tok1 : True := trivial
  go_wp2_with (first
    | (clear tok1; refine st_new rfl (rn_box (cs := u8s id) H rfl rfl rfl) ?_; clear H; intro b4 w1 hb4 H; have tok2 : True := trivial)
    | (clear tok2; refine st_new rfl (rn_alloc H rfl info_hash) ?_; clear H; intro b8 w2 hb8 H; have tok3 : True := trivial)
    | (clear tok3; refine st_new rfl (rn_alloc H rfl info_writer) ?_; clear H; intro b9 w3 hb9 H; have B : Buf 5 .u8 w w3 ((b9, [.slice none 0 0], 107) :: [(b8, u8s (List.replicate 32 0), 28), (b4, u8s id, 26)]) (.slice none 0 0) [] := Buf.nil H; clear H; have tok4 : True := trivial)
    | (refine st_val rfl (rn_sliceAll rfl rfl size_u8 rfl (by omega)) ?_)
    | (clear tok4; go_at_call 60; refine (raw_any _ _ _ _ _ _ B _ id (Own.litM B.own0 (.tail _ (.tail _ (.head _))) h16'.out.symm) (by rw [h16'.out]; decide)).mono ?_; rintro e w4 ⟨rfl, v4, B2⟩; clear B; have B := B2; clear B2; have tok5 : True := trivial)
    | (clear tok5; go_at_call 59; refine (num_any _ _ _ _ _ _ B q 4 (by omega) (by omega) (by rw [List.nil_append, h16'.out]; omega)).mono ?_; rintro e w5 ⟨rfl, v5, B2⟩; clear B; have B := B2; clear B2; have tok6 : True := trivial)
    | (clear tok6; go_at_call 59; refine (num_any _ _ _ _ _ _ B n 2 (by omega) (by omega) (by rw [List.nil_append, List.length_append, h16'.out, length_numB]; omega)).mono ?_; rintro e w6 ⟨rfl, v6, B2⟩; rw [hA1.out] at B2; clear B; have B := B2; clear B2))
  go_loopw [22] (fun v22 wr => ∃ (i : Nat) (u : Value), i ≤ m ∧ v22 = .int .i64 ((i : Nat) : Int) ∧ Buf 5 .u8 w wr ((b9, [u], 107) :: [(b8, u8s (List.replicate 32 0), 28), (b4, u8s id, 26)]) u (A ++ F i)) (fun v22 _ => ((m : Nat) - intOf v22).toNat)
  case atStart => exact ⟨0, v6, by omega, rfl, by rw [hf0.out, List.append_nil]; exact B⟩
  case round =>
    clear B
    obtain ⟨i, u, hi, rfl, B⟩ := hrel
    by_cases hin : i < m
    · obtain ⟨x, hx⟩ : ∃ x, l[i]? = some x := ⟨_, List.getElem?_eq_getElem (by have := hm'.out; omega)⟩
      obtain ⟨hxo, ⟨px, cx, hxs⟩, _⟩ := O.out.el i x hx
      have hFx := Lib.hid (hfs.out i x hx)
      obtain ⟨og, oo, hp0⟩ := O.out.addr (by have := hm'.out; omega)
      subst hp0
      have hcell : Hid (∀ w1 L1, Own w w1 L1 → (∀ b ∈ L1.map (·.1), w.heap.size ≤ b) → w1.cell? ⟨og, oo + (i : Int).toNat * 1, none⟩ = some (.slice px x.2.length cx)) := fun w1 L1 h1 h2 => by rw [← hxs]; exact O.out.cellAt h1 h2 (by simpa using hx)
      have hxo' : Hid (∀ w1 L1, Own w w1 L1 → (∀ b ∈ L1.map (·.1), w.heap.size ≤ b) → BytesAt w1 (.slice px x.2.length cx) x.2) := fun w1 L1 h1 h2 => by rw [← hxs]; exact hxo.at h1 h2
      have hl3 := Lib.hid (hfl.out (i + 1))
      have hl4 : Hid ((F (i + 1)).length = (F i).length + x.2.length) := by show _ = _; rw [hFx.out, List.length_append]
      have hst : Hid (A ++ F i ++ x.2 = A ++ F (i + 1)) := by show _ = _; rw [hFx.out, List.append_assoc]
      obtain ⟨ys, hys⟩ : ∃ ys, x.2 = ys := ⟨_, rfl⟩
      rw [hys] at hcell hxo' hFx hl4 hst
      clear hxo hxs hx hys
      go_wp2_with (first
        | (refine st_val rfl (rn_idxSl (j := (i : Int)) rfl rfl size_sl rfl rfl (by omega) (by omega)) ?_)
        | (refine st_val rfl (rn_cell (i := oo + (i : Int).toNat * 1) rfl rfl rfl rfl (hcell.out _ _ B.own0 (by simp; omega))) ?_)
        | (go_at_call 60; refine (raw_any _ _ _ _ _ _ B _ ys (hxo'.out _ _ B.own0 (by simp; omega)) (by rw [List.length_append, hAl.out]; have := hl3.out; have := hl4.out; omega)).mono ?_; rintro e w7 ⟨rfl, v7, B2⟩; rw [hst.out] at B2; clear B; have B := B2; clear B2))
      exact ⟨⟨i + 1, _, by omega, by go_num, B⟩, by simp [intOf]; omega⟩
    · obtain rfl : i = m := by omega
      rw [hfin.out] at B
      have tok7 : True := trivial
      go_wp2_with (first
        | (clear tok7; go_at_call 61; refine (bytes_any _ b9 u Z (B.own0.sub1 (.head _)) B.bytesAt B.lt (by have := hZl.out; omega)).mono ?_; rintro e w7 ⟨r, rfl, hr, h3⟩; have H := B.own0.call0 h3; clear B h3; have R7 := Lib.hid hr; clear hr; have tok8 : True := trivial)
        | (clear tok8; go_at_call 88; refine (shaSum_any _ _ Z R7.out.2.1 R7.out.2.2 (by have := hZl.out; omega)).mono ?_; rintro e w8 ⟨rfl, h3⟩; have H2 := H.call0 h3; clear H h3 R7; have H := H2; clear H2; have tok9 : True := trivial)
        | (clear tok9; refine st_skip rfl (rn_storeAll (vs := u8s (sha Z)) H rfl rfl rfl (by kernel_rfl) (.tail .head) (by kernel_rfl) (oneCell_ints _ _)) ?_; clear H; intro w9 H))
      refine fin_cell rfl H rfl (.tail _ (.head _)) rfl rfl (by kernel_rfl) rfl ⟨rfl, ?_⟩
      exact H.end0 (by simp; omega)

theorem info_tree : ((Try.prog.info? 104).bind (·.zero)).map (fun z => z.cells.toList) = some (treeG (List.replicate 48 0) 0 0 0 (List.replicate 2048 0) 0) := by kernel_rfl

theorem tree_fill {ss : List Int} {k : Nat} (hss : (u8s ss).length = 48) : fillL [(0, 48), (48, 1), (49, 3), (52, 2048), (2100, 1)] (treeG (List.replicate 48 0) 0 0 0 (List.replicate 2048 0) 0) [(0, u8s ss), (1, [.int .i64 k])] = some (treeG ss k 0 0 (List.replicate 2048 0) 0) := by
  have h0 : ss.length = 48 := by simpa using hss
  refine fillL_cons (off := 0) (by rw [hss]; rfl) (by rw [hss, tg_len List.length_replicate List.length_replicate]; omega) (cs' := treeG ss 0 0 0 (List.replicate 2048 0) 0) ?_ (fillL_cons (off := 48) rfl (by rw [tg_len h0 List.length_replicate]; exact Nat.le_of_ble_eq_true rfl) (cs' := treeG ss k 0 0 (List.replicate 2048 0) 0) ?_ rfl)
  · unfold treeG
    rw [List.append_assoc, List.append_assoc, splice_app (by rw [hss]; simp), splice_all (by rw [hss]; simp)]
  · have e := splice_right (A := u8s ss) (o := 0) (x := [Value.int .i64 k]) (B := [.int .i64 (0 : Nat)] ++ .int .u32 0 :: .int .i32 0 :: (.int .u32 0 :: (u8s (List.replicate 2048 0) ++ [.int .i64 0]))) hss
    unfold treeG
    rw [List.append_assoc, List.append_assoc]
    exact e

set_option maxRecDepth 100000 in
set_option maxHeartbeats 1600000 in
theorem lnew_any (w : World) (ss : List Int) (h48 : ss.length = 48) (k : Nat) (hk : k = 1 ∨ k = 2 ∨ k = 4 ∨ k = 8) :
    Calls Try.prog 27 #[.agg (u8s ss).toArray, .int .i64 k] w fun e w' => ∃ b, e = .returned (.tuple #[.pointer (some ⟨b, 0, none⟩), .int .i64 0]) ∧ w.heap.size ≤ b ∧ Own w w' [(b, treeG ss k 0 0 (List.replicate 2048 0) 0, 104)] := by
  have H := Own.refl w
  have hch := Lib.hid (fun w' => chains_k w' k hk)
  obtain ⟨hC0, hC1⟩ := chN_le k
  obtain ⟨C, hC⟩ : ∃ C, C = chN k := ⟨_, rfl⟩
  rw [← hC] at hch hC0
  have hsz : Hid ((Try.prog.info? 30).map (·.size) = some (u8s ss).length) := by show _ = _; rw [length_ints, h48]; kernel_rfl
  have hss : Hid ((u8s ss).length = 48) := by show _ = _; rw [length_ints, h48]
  have hne : ((C : Int) == 0) = false := by rw [beq_eq_false_iff_ne]; omega
  have hne2 : ¬ (C : Int) = 0 := by omega
  clear hC hC0 hC1 h48
  go_enter Try.func27, Try.ntmps27
  have tok1 : True := trivial
  go_wp2_with (first
    | (clear tok1; refine st_new rfl (rn_box (cs := u8s ss) H rfl rfl rfl) ?_; clear H; intro b2 w1 hb2 H; have tok2 : True := trivial)
    | (clear tok2; go_at_call 56; refine (hch.out _).mono ?_; rintro e w2 ⟨rfl, h3⟩; have H2 := H.call0 h3; clear H h3; have H := H2; clear H2; have tok3 : True := trivial)
    | (clear tok3; refine st_val rfl (rn_loadAll (cs := u8s ss) H rfl rfl (.head _) rfl rfl hsz.out) ?_; have tok4 : True := trivial)
    | (clear tok4; refine st_val (v := .agg (treeG ss k 0 0 (List.replicate 2048 0) 0).toArray) rfl (rn_buildS (places := [(0, 48), (48, 1), (49, 3), (52, 2048), (2100, 1)]) rfl rfl info_tree (by kernel_rfl) (by exact tree_fill hss.out)) ?_; have tok5 : True := trivial)
    | (clear tok5; refine st_new rfl (rn_box (cs := treeG ss k 0 0 (List.replicate 2048 0) 0) H rfl rfl rfl) ?_; clear H; intro b12 w5 hb12 H))
  go_ret2
  exact ⟨b12, rfl, hb12, H.dropR (L1 := [_]) (by simp; omega)⟩

theorem lnew_bad (w : World) (ss : List Int) (x : Int) (hx : chainsOf x = 0) :
    Calls Try.prog 27 #[.agg (u8s ss).toArray, .int .i64 x] w fun e w' => e = .returned (.tuple #[.pointer none, .int .i64 1]) ∧ Own w w' [] := by
  have H := Own.refl w
  have hch := Lib.hid (fun w' => chains_any w' x)
  rw [hx] at hch
  clear hx
  go_enter Try.func27, Try.ntmps27
  go_wp2_with (first
    | (refine st_new rfl (rn_box (cs := u8s ss) H rfl rfl rfl) ?_; clear H; intro b2 w1 hb2 H)
    | (go_at_call 56; refine (hch.out _).mono ?_; rintro e w2 ⟨rfl, h3⟩; have H2 := H.call0 h3; clear H h3; have H := H2; clear H2))
  go_ret2
  exact ⟨rfl, H.end0 (by simp; omega)⟩

/-- how long a signature is -/
def sizeOfL (k : Nat) : Nat := 204 + 32 * chN k
theorem size_k (w : World) (k : Nat) (hk : k = 1 ∨ k = 2 ∨ k = 4 ∨ k = 8) : Calls Try.prog 48 #[.int .i64 k] w fun e w' => e = .returned (.int .i64 (sizeOfL k : Nat)) ∧ Own w w' [] := by
  have H := Own.refl w
  have hch := Lib.hid (fun w' => chains_k w' k hk)
  have hlo := Lib.hid (fun w' => long_any w' k)
  have hcc : chainsOf k = chN k := by rcases hk with rfl | rfl | rfl | rfl <;> rfl
  have hsz : Hid (((4 + (36 + 32 * (chN k : Int)) + 4 + 160 : Int)) = (sizeOfL k : Nat)) := by show _ = _; unfold sizeOfL; omega
  rw [hcc] at hlo
  obtain ⟨hC0, hC1⟩ := chN_le k
  obtain ⟨C, hC⟩ : ∃ C, C = chN k := ⟨_, rfl⟩
  rw [← hC] at hch hC0 hC1 hlo hsz
  have hne : ((C : Int) == 0) = false := by rw [beq_eq_false_iff_ne]; omega
  have hne2 : ¬ (C : Int) = 0 := by omega
  clear hC hcc hk
  go_enter Try.func48, Try.ntmps48
  go_wp2_with (first
    | (go_at_call 56; refine (hch.out _).mono ?_; rintro e w2 ⟨rfl, h3⟩; have H2 := H.call0 h3; clear H h3; have H := H2; clear H2)
    | (go_at_call 53; refine (hlo.out _).mono ?_; rintro e w2 ⟨rfl, h3⟩; have H2 := H.call0 h3; clear H h3; have H := H2; clear H2))
  rw [hsz.out]
  go_ret
  exact ⟨rfl, H⟩
theorem size_bad (w : World) (x : Int) (hx : chainsOf x = 0) : Calls Try.prog 48 #[.int .i64 x] w fun e w' => e = .returned (.int .i64 0) ∧ Own w w' [] := by
  have H := Own.refl w
  have hch := Lib.hid (fun w' => chains_any w' x)
  rw [hx] at hch
  clear hx
  go_enter Try.func48, Try.ntmps48
  go_wp2_with (go_at_call 56; refine (hch.out _).mono ?_; rintro e w2 ⟨rfl, h3⟩; have H2 := H.call0 h3; clear H h3; have H := H2; clear H2)
  go_ret
  exact ⟨rfl, H⟩

end Go.Proofs.Ytfihlmnbonnekaa
