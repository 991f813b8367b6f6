/- lms, in plain Lean: a tree's nodes, how they lie in memory. And what stands on it. No condition. -/
import Derived.Test.YtfihlmnbonnekaaGreatPrgB
import Derived.Test.YtfihlmnbonnekaaGreatDgA
import Derived.Great.FillDense

/-! lms, in plain Lean: a tree's nodes, how they lie in memory. -/
namespace Go.Proofs.YtfihlmnbonnekaaGreat
open Go.RowKit
set_option maxHeartbeats 32000000
def leafOf (id : List Int) (r : Nat) (x : List Int) : List Int := sha (frontq id r ++ ([130, 130] ++ x))
def innerOf (id : List Int) (r : Nat) (x y : List Int) : List Int := sha (frontq id r ++ ([131, 131] ++ (x ++ y)))
def nodeD (id seed : List Int) (k : Nat) : Nat → Nat → List Int
 | 0, r => leafOf id r (pubOf id seed (r - 32) k)
 | d + 1, r => innerOf id r (nodeD id seed k d (2 * r)) (nodeD id seed k d (2 * r + 1))
def depN (r : Nat) : Nat := if 32 ≤ r then 0 else if 16 ≤ r then 1 else if 8 ≤ r then 2 else if 4 ≤ r then 3 else if 2 ≤ r then 4 else 5
def nodeOf (id seed : List Int) (k r : Nat) : List Int := nodeD id seed k (depN r) r
theorem nodeOf_leaf (id seed : List Int) (k : Nat) {r : Nat} (h : 32 ≤ r) : nodeOf id seed k r = leafOf id r (pubOf id seed (r - 32) k) := by
 unfold nodeOf
 rw [show depN r = 0 by unfold depN; rw [if_pos h]]
 rfl
theorem nodeOf_inner (id seed : List Int) (k : Nat) {r : Nat} (h0 : 0 < r) (h : r < 32) : nodeOf id seed k r = innerOf id r (nodeOf id seed k (2 * r)) (nodeOf id seed k (2 * r + 1)) := by
 have h1 : depN r = depN (2 * r) + 1 := by
  unfold depN
  repeat' split
  all_goals omega
 have h2 : depN (2 * r + 1) = depN (2 * r) := by
  unfold depN
  repeat' split
  all_goals omega
 unfold nodeOf
 rw [h1, h2]
 rfl
theorem nodeD_sha (id seed : List Int) (k d r : Nat) : ∃ x, nodeD id seed k d r = sha x := by
 cases d with
 | zero => exact ⟨_, rfl⟩
 | succ d => exact ⟨_, rfl⟩
theorem length_nodeOf (id seed : List Int) (k r : Nat) : (nodeOf id seed k r).length = 32 := by
 obtain ⟨x, h⟩ := nodeD_sha id seed k (depN r) r
 unfold nodeOf
 rw [h]
 rfl
theorem isBytes_nodeOf (id seed : List Int) (k r : Nat) : IsBytes (nodeOf id seed k r) := by
 obtain ⟨x, h⟩ := nodeD_sha id seed k (depN r) r
 unfold nodeOf
 rw [h]
 exact isBytes_sha _
def tblF (N : Nat → List Int) (j i : Nat) : List Int := if j < i then N i else List.replicate 32 0
def tblOf (N : Nat → List Int) (j : Nat) : List Int := flatX (tblF N j) 64
section
variable {N : Nat → List Int}
theorem length_tblF (hN : ∀ r, (N r).length = 32) (j i : Nat) : (tblF N j i).length = 32 := by
 unfold tblF
 split
 · exact hN i
 · simp
theorem length_tblOf (hN : ∀ r, (N r).length = 32) (j : Nat) : (tblOf N j).length = 2048 := length_flatX (length_tblF hN j) 64
theorem flatX_zeros : ∀ n, flatX (fun _ => List.replicate 32 (0 : Int)) n = List.replicate (32 * n) 0
 | 0 => rfl
 | n + 1 => by rw [flatX_succ, flatX_zeros n, List.replicate_append_replicate]; rfl
theorem tblOf_start : tblOf N 63 = List.replicate 2048 0 := by
 have e : tblOf N 63 = flatX (fun _ => List.replicate 32 0) 64 := flatX_congr fun n hn => by unfold tblF; rw [if_neg (by omega)]
 rw [e, flatX_zeros]
theorem splice_app {α : Type} {A B x : List α} {o : Nat} (h : o + x.length ≤ A.length) : splice (A ++ B) o x = splice A o x ++ B := by
 unfold splice
 rw [List.take_append_of_le_length (by omega), List.drop_append_of_le_length (by omega)]
 simp
theorem splice_right {α : Type} {A B x : List α} {o n : Nat} (h : A.length = n) : splice (A ++ B) (n + o) x = A ++ splice B o x := by
 subst h
 unfold splice
 rw [List.take_append, List.drop_append, List.take_of_length_le (by omega), List.drop_of_length_le (by omega), show A.length + o - A.length = o by omega, show A.length + o + x.length - A.length = o + x.length by omega]
 simp
theorem splice_all {α : Type} {A x : List α} (h : A.length = x.length) : splice A 0 x = x := by
 unfold splice
 rw [List.take_zero, List.drop_of_length_le (by omega)]
 simp
theorem splice_flat {X Y : Nat → List Int} (hX : ∀ i, (X i).length = 32) {r : Nat} (hr : (Y r).length = 32) (hXY : ∀ i, i ≠ r → Y i = X i) : ∀ n, r < n → splice (flatX X n) (32 * r) (Y r) = flatX Y n
 | 0, h => by omega
 | n + 1, h => by
   have hl := length_flatX hX n
   rw [flatX_succ, flatX_succ]
   by_cases e : r = n
   · subst e
     have e2 := splice_right (B := X r) (x := Y r) (o := 0) hl
     rw [Nat.add_zero] at e2
     rw [e2, splice_all ((hX r).trans hr.symm), flatX_congr (X := X) (Y := Y) fun i hi => (hXY i (by omega)).symm]
   · rw [splice_app (by omega), splice_flat hX hr hXY n (by omega), hXY n (by omega)]
theorem tblOf_step (hN : ∀ r, (N r).length = 32) {r : Nat} (h : r < 63) : splice (tblOf N (r + 1)) (32 * (r + 1)) (N (r + 1)) = tblOf N r := by
 have e : tblF N r (r + 1) = N (r + 1) := by unfold tblF; rw [if_pos (by omega)]
 have h2 := splice_flat (X := tblF N (r + 1)) (Y := tblF N r) (r := r + 1) (length_tblF hN _) (length_tblF hN _ _) (fun i hi => by unfold tblF; split <;> split <;> first | rfl | omega) 64 (by omega)
 rw [e] at h2
 exact h2
theorem tblOf_get (hN : ∀ r, (N r).length = 32) {j i : Nat} (h : j < i) (h64 : i < 64) : ((tblOf N j).drop (32 * i)).take 32 = N i := by
 unfold tblOf
 rw [flatX_piece (length_tblF hN j) h64]
 unfold tblF
 rw [if_pos h]
end
def treeG (ss : List Int) (k : Nat) (d l : Int) (ns : List Int) (m : Int) : List Value := (u8s ss ++ [.int .i64 k]) ++ .int .u32 d :: .int .i32 l :: (.int .u32 0 :: (u8s ns ++ [.int .i64 m]))
section
variable {ss ns : List Int} {k : Nat} {d l m : Int}
theorem tg_len (h : ss.length = 48) (h2 : ns.length = 2048) : (treeG ss k d l ns m).length = 2101 := by simp [treeG, h, h2]
theorem tg_eq (h : ss.length = 48) : ∃ A : List Value, A.length = 52 ∧ treeG ss k d l ns m = A ++ (u8s ns ++ [.int .i64 m]) := ⟨(u8s ss ++ [.int .i64 k]) ++ [.int .u32 d, .int .i32 l, .int .u32 0], by simp [h], by simp [treeG]⟩
theorem tg_s {j : Nat} {v : Value} (hj : (u8s ss)[j]? = some v) : (treeG ss k d l ns m)[j]? = some v := by
 have h1 : j < (u8s ss).length := (List.getElem?_eq_some_iff.1 hj).1
 unfold treeG
 rw [List.append_assoc, List.getElem?_append_left h1]
 exact hj
theorem tg_k (h : ss.length = 48) : (treeG ss k d l ns m)[48]? = some (.int .i64 k) := by
 unfold treeG
 rw [List.append_assoc, List.getElem?_append_right (by simp [h])]
 simp [h]
theorem tg_d (h : ss.length = 48) : (treeG ss k d l ns m)[49]? = some (.int .u32 d) := by
 unfold treeG
 rw [List.getElem?_append_right (by simp [h])]
 simp [h]
theorem tg_n (h : ss.length = 48) {j : Nat} {v : Value} (hj : (u8s ns)[j]? = some v) : (treeG ss k d l ns m)[52 + j]? = some v := by
 obtain ⟨A, hA, e⟩ := tg_eq (k := k) (d := d) (l := l) (m := m) (ns := ns) h
 have h1 : j < (u8s ns).length := (List.getElem?_eq_some_iff.1 hj).1
 rw [e, List.getElem?_append_right (by omega), hA, show 52 + j - 52 = j by omega, List.getElem?_append_left h1]
 exact hj
theorem tg_m (h : ss.length = 48) (h2 : ns.length = 2048) : (treeG ss k d l ns m)[2100]? = some (.int .i64 m) := by
 obtain ⟨A, hA, e⟩ := tg_eq (k := k) (d := d) (l := l) (m := m) (ns := ns) h
 rw [e, List.getElem?_append_right (by omega), hA, List.getElem?_append_right (by simp [h2])]
 simp [h2]
theorem tg_splice (h : ss.length = 48) {o : Nat} {x ns' : List Int} (ho : o + x.length ≤ ns.length) (hs : splice ns o x = ns') : splice (treeG ss k d l ns m) (52 + o) (u8s x) = treeG ss k d l ns' m := by
 subst hs
 have e1 : u8s (splice ns o x) = splice (u8s ns) o (u8s x) := by
  unfold splice
  rw [u8s_app, u8s_app, length_ints]
  simp [ints, List.map_take, List.map_drop]
 unfold treeG
 rw [e1, ← splice_app (by simpa using ho), show ∀ A B C : Value, ∀ Z, (u8s ss ++ [Value.int .i64 k]) ++ A :: B :: C :: Z = ((u8s ss ++ [Value.int .i64 k]) ++ [A, B, C]) ++ Z by intros; simp]
 rw [splice_right (by simp [h])]
 simp
theorem tg_setm (h : ss.length = 48) (h2 : ns.length = 2048) (m' : Int) : (treeG ss k d l ns m).set 2100 (.int .i64 m') = treeG ss k d l ns m' := by
 unfold treeG
 rw [show ∀ A B C : Value, ∀ Y Z, (u8s ss ++ [Value.int .i64 k]) ++ A :: B :: C :: (Y ++ Z) = (((u8s ss ++ [Value.int .i64 k]) ++ [A, B, C]) ++ Y) ++ Z by intros; simp, List.set_append_right _ _ (by simp [h, h2])]
 simp [h, h2]
end
end Go.Proofs.YtfihlmnbonnekaaGreat

/-! ots: Types. -/
namespace Go.Proofs.YtfihlmnbonnekaaGreat
open Go.RowKit
set_option maxHeartbeats 32000000
set_option maxRecDepth 100000 in
theorem types_any (w : World) : Calls Tryz.prog 79 #[] w fun e w' => ∃ b c, e = .returned (.slice (some ⟨b, 0, none⟩) 4 c) ∧ (∀ w'', Own w' w'' [] → ∀ i, i < 4 → w''.cell? ⟨b, i, none⟩ = some (.int .i64 (wOf i))) ∧ Own w w' [] := by
 have H := Own.refl w
 have hk := Hh kinds_any
 go_enter Tryz.func79, Tryz.ntmps79
 have z1 := tt
 go_wp2_with (clear z1; go_at_call 86; refine (hk.out _).mono ?_; rintro e w2 ⟨rfl, h3⟩; replace H := H.call0 h3; clear h3)
 have O : Buf 3 .i64 w w2 [] (.slice none 0 0) [] := Buf.nil H
 clear H
 go_loopw [1, 5] (fun v1 v5 wr => ∃ (i : Nat) (p : Option Addr) (c : Nat), i ≤ 4 ∧ v5 = .int .i64 ((i : Nat) : Int) ∧ v1 = .slice p i c ∧ Buf 3 .i64 w wr [] v1 (([1, 2, 4, 8] : List Int).take i)) (fun _ v5 _ => ((4 : Nat) - intOf v5).toNat)
 case atStart => exact ⟨0, none, 0, by omega, rfl, rfl, O⟩
 case round =>
  clear O
  obtain ⟨i, p, c, hi, rfl, rfl, O⟩ := hrel
  by_cases hin : i < 4
  · obtain ⟨cc, hc⟩ := krow_cons i
    have hlen := Hh (krow_len i)
    have hidx := Hh (krow_at hin)
    have hst : Hid (([1, 2, 4, 8] : List Int).take i ++ [wOf i] = ([1, 2, 4, 8] : List Int).take (i + 1)) := by
     show _ = _
     match i, hin with
     | 0, _ => rfl
     | 1, _ => rfl
     | 2, _ => rfl
     | 3, _ => rfl
    have hl : Hid ((([1, 2, 4, 8] : List Int).take i).length = i) := by show _ = _; simp; omega
    obtain ⟨kr, hkr⟩ : ∃ k, k = krow i := ⟨_, rfl⟩
    rw [← hkr] at hc hlen hidx
    obtain ⟨wi, hwi⟩ : ∃ k, k = wOf i := ⟨_, rfl⟩
    rw [← hwi] at hc hst
    have h0 : Hid ((i64s kr)[0]? = some (.int .i64 wi)) := by show _ = _; rw [hc]; rfl
    have hl4 : Hid ((i64s kr).length = 4) := by show _ = _; rw [length_ints]; exact hlen.out
    have hsz : Hid ((Tryz.prog.info? 107).map (·.size) = some (i64s kr).length) := by show _ = _; rw [hl4.out]; kernel_rfl
    obtain ⟨ts, hts⟩ : ∃ t, t = ([1, 2, 4, 8] : List Int).take i := ⟨_, rfl⟩
    rw [← hts] at O hst hl
    have hsum : Hid (ts.length + [wi].length = i + 1) := by show _ = _; rw [hl.out]; rfl
    clear hc hkr hwi hts
    go_wp2_with (first
     | (refine st_val rfl (rn_idxAggs rfl rfl (by kernel_rfl) rfl rfl rfl rfl (by omega) (by omega) hidx.out) ?_)
     | (refine st_newG rfl (rn_alloc (Own.refl wr) rfl info_kind) ?_; intro b w3 hb M; have g3 := Nat.le_trans O.own0.size hb; have O2 := O.callNew M hb; clear O M; have O := O2; clear O2)
     | (refine st_bufPut (vs := i64s kr) rfl O rfl rfl rfl hsz.out (by rw [hl4.out]; rfl) (oneCell_ints _ _) ?_; clear O; intro w4 O)
     | (refine st_val rfl (rn_load O.own0 rfl rfl (.head _) rfl rfl h0.out) ?_)
     | (refine st_lit rfl O rfl (cs := i64s [wi]) (el := 3) (fun w' => by kernel_rfl) ?_; clear O; intro b10 w10 hb10 O)
     | (refine st_app (ys := [wi]) rfl O elem_i64 rfl rfl rfl rfl (O.litAt (.head _) rfl) (by rw [hsum.out]; omega) (by rw [hsum.out]; omega) ?_; clear O; intro p11 c11 w11 O; rw [hst.out] at O; rw [hsum.out] at O ⊢; have O2 := (O.pop hb10).pop g3; clear O; have O := O2; clear O2))
    exact ⟨⟨i + 1, _, _, by omega, by go_num, rfl, O⟩, by simp [intOf]; omega⟩
  · obtain rfl : i = 4 := by omega
    have h1 := Hh O
    clear O
    go_wp2_with fail
    go_ret
    obtain ⟨Lv, ⟨_, ⟨hv, h2, _⟩ | ⟨g, cap, cs, hv, rfl, hn, hcap, hcl, htk⟩⟩, h4, h5⟩ := h1.out
    · simp at h2
    · cases hv
      refine ⟨g, c, rfl, fun w'' hw i hi => hw.old ?_ (by simp), h4.drop h5⟩
      rw [h4.cell (.head _)]
      have h6 := congrArg (fun l => l[i]?) htk
      rw [List.getElem?_take_of_lt (by simpa using hi)] at h6
      rw [h6]
      match i, hi with
      | 0, _ => rfl
      | 1, _ => rfl
      | 2, _ => rfl
      | 3, _ => rfl
end Go.Proofs.YtfihlmnbonnekaaGreat

/-! lms: node, New, Size. -/
namespace Go.Proofs.YtfihlmnbonnekaaGreat
open Go.RowKit
set_option maxHeartbeats 32000000
def fillL (places : List (Nat × Nat)) : List Value → List (Nat × List Value) → Option (List Value)
 | cs, [] => some cs
 | cs, (i, vs) :: r => match places[i]? with
   | some (off, sz) => if vs.length = sz ∧ off + sz ≤ cs.length then fillL places (splice cs off vs) r else none
   | none => none
theorem fillL_cons {places : List (Nat × Nat)} {cs vs cs' : List Value} {i off : Nat} {r : List (Nat × List Value)} {x : List Value} (hp : places[i]? = some (off, vs.length)) (h2 : off + vs.length ≤ cs.length) (hs : splice cs off vs = cs') (h : fillL places cs' r = some x) : fillL places cs ((i, vs) :: r) = some x := by
 unfold fillL
 rw [hp]
 simp only [true_and]
 rw [if_pos h2, hs]
 exact h
theorem foldl_splice (off : Nat) : ∀ (vs : List Value) (s : Nat) (cs : Array Value), off + s + vs.length ≤ cs.size → (vs.toArray.zipIdx s).foldl (fun cs (x : Value × Nat) => cs.setIfInBounds (off + x.2) x.1) cs = (splice cs.toList (off + s) vs).toArray
 | vs, s, cs, h => by
   obtain ⟨h1, h2⟩ := Go.Great.foldl_set off vs s cs
   have e : (vs.toArray.zipIdx s).foldl (fun cs (x : Value × Nat) => cs.setIfInBounds (off + x.2) x.1) cs = (vs.zipIdx s).foldl (fun cs (x : Value × Nat) => cs.setIfInBounds (off + x.2) x.1) cs := by
    rw [← Array.foldl_toList, Array.toList_zipIdx]
   rw [e]
   apply Array.ext_getElem?
   intro k
   rw [h2 k]
   unfold splice
   rw [show (List.take (off + s) cs.toList ++ (vs ++ List.drop (off + s + vs.length) cs.toList)).toArray[k]? = (List.take (off + s) cs.toList ++ (vs ++ List.drop (off + s + vs.length) cs.toList))[k]? by simp]
   by_cases hk : k < off + s
   · rw [if_neg (by omega), List.getElem?_append_left (by simp; omega), List.getElem?_take_of_lt hk]
     simp
   · rw [List.getElem?_append_right (by simp; omega), List.length_take, Nat.min_eq_left (by simp; omega)]
     by_cases hl : k < off + s + vs.length
     · rw [if_pos ⟨by omega, hl, by omega⟩, List.getElem?_append_left (by omega)]
     · rw [if_neg (by omega), List.getElem?_append_right (by omega), List.getElem?_drop]
       simp only [Array.getElem?_toList]
       congr 1
       omega
theorem fill_fillL {place : Nat → Option (Nat × Nat)} {places : List (Nat × Nat)} (hpl : ∀ i, place i = places[i]?) : ∀ (parts : List (Nat × Value)) (cs r : List Value), fillL places cs (parts.map fun x => (x.1, x.2.cells.toList)) = some r → Instr.fill place cs.toArray parts = some r.toArray
 | [], cs, r, h => by
   simp only [List.map_nil, fillL, Option.some.injEq] at h
   subst h
   rfl
 | (i, v) :: parts, cs, r, h => by
   simp only [List.map_cons, fillL] at h
   unfold Instr.fill
   rw [hpl i]
   cases hp : places[i]? with
   | none => rw [hp] at h; cases h
   | some p =>
     obtain ⟨off, sz⟩ := p
     rw [hp] at h
     simp only at h ⊢
     split at h
     · rename_i hc
       obtain ⟨h1, h2⟩ := hc
       rw [if_neg (by simp at h1 ⊢; omega)]
       have e := foldl_splice off v.cells.toList 0 cs.toArray (by simp at h1 ⊢; omega)
       simp only [Array.toArray_toList, Nat.add_zero] at e
       rw [e]
       exact fill_fillL hpl parts _ r h
     · cases h
section
variable {P : Program} {rest : List Oper} {o : Oper} {a : Act} {w : World}
theorem rn_buildS {t : TypeId} {parts : Array (Nat × Operand)} (ho : o.op = .build t parts) {fields : Array Field} (hu : P.underlying t = some (.struct fields)) {zs : List Value} (hz : ((P.info? t).bind (·.zero)).map (fun z => z.cells.toList) = some zs)
 {places : List (Nat × Nat)} (hp : fields.toList.mapM (fun f => (P.info? f.type).map fun i => (f.offset, i.size)) = some places) {r : List Value} (hf : fillL places zs (parts.toList.map fun x => (x.1, (a.eval x.2).cells.toList)) = some r) :
 (execOp a.eval o).run P w = .ok (.value (.agg r.toArray)) w := by
 refine rn_build ho ?_
 unfold Program.built
 cases hi : P.info? t with
 | none => rw [hi] at hz; cases hz
 | some it =>
   rw [hi] at hz
   cases hz0 : it.zero with
   | none => simp [hz0] at hz
   | some z =>
     simp [hz0] at hz
     rw [hu]
     simp only [hp, hz0]
     have h := fill_fillL (place := (places.toArray[·]?)) (places := places) (fun i => by simp) (parts.toList.map fun x => (x.1, a.eval x.2)) zs r (by rw [List.map_map]; exact hf)
     rw [← hz] at h
     rw [show (parts.map fun (i, x) => (i, a.eval x)).toList = parts.toList.map fun x => (x.1, a.eval x.2) by simp]
     simpa using h
end
set_option maxRecDepth 100000 in
theorem node_any (w : World) (id : List Int) (h16 : id.length = 16) (q n : Nat) (hq : q < 4294967296) (hn : n < 65536) (v : Value) (ls : List (List Int)) (hv : LitL ls w v) (hl : ls.flatten.length ≤ 200000) (hl9 : ls.length ≤ 1000) :
 Calls Tryz.prog 52 #[.agg (u8s id).toArray, .int .i64 q, .int .i64 n, v] w fun e w' => e = .returned (.agg (u8s (sha (hashIn id q n ls))).toArray) ∧ Own w w' [] := by
 have H := Own.refl w
 obtain ⟨l, hO, hls⟩ := hv
 have hlen : l.length = ls.length := by rw [← hls, List.length_map]
 obtain ⟨pv, cv, rfl⟩ := hO.addr'
 have O := Hh hO
 obtain ⟨m, hm⟩ : ∃ m, m = l.length := ⟨_, rfl⟩
 rw [← hm] at O hlen ⊢
 have hm' := Hh hm
 have h16' := Hh h16
 have hm9 : m ≤ 1000 := by omega
 obtain ⟨A, hA⟩ : ∃ A, A = frontq id q ++ numB n 2 := ⟨_, rfl⟩
 have hAl : Hid (A.length = 22) := by show _ = _; rw [hA, List.length_append, length_frontq h16, length_numB]
 have hA1 : Hid ([] ++ id ++ numB q 4 ++ numB n 2 = A) := by show _ = _; rw [hA]; rfl
 have hfin : Hid (A ++ flatL l m = hashIn id q n ls) := by show _ = _; rw [hm, LitL.flat hls, hA]; rfl
 have hfl : Hid (∀ i, (flatL l i).length ≤ 200000) := fun i => Nat.le_trans (flatL_le l i) (by rw [LitL.flat hls]; exact hl)
 have hfs : Hid (∀ i x, l[i]? = some x → flatL l (i + 1) = flatL l i ++ x.2) := fun i x h => flatL_succ h
 have hf0 : Hid (flatL l 0 = []) := rfl
 obtain ⟨Z, hZ⟩ : ∃ Z, Z = hashIn id q n ls := ⟨_, rfl⟩
 rw [← hZ] at hfin ⊢
 obtain ⟨F, hF⟩ : ∃ F, F = flatL l := ⟨_, rfl⟩
 rw [← hF] at hfin hfl hfs hf0
 have hZl : Hid (Z.length ≤ 200022) := by show _ ≤ _; rw [← hfin.out, List.length_append, hAl.out]; have := hfl.out m; omega
 clear hO hls hlen hl hl9 hm h16 hA hZ hF
 go_enter Tryz.func52, Tryz.ntmps52
 have z1 := tt
 go_wp2_with (first
  | (clear z1; refine st_new rfl (rn_box (cs := u8s id) H rfl rfl rfl) ?_; clear H; intro b4 w1 hb4 H; have z2 := tt)
  | (clear z2; refine st_new rfl (rn_alloc H rfl info_hash) ?_; clear H; intro b8 w2 hb8 H; have z3 := tt)
  | (clear z3; refine st_new rfl (rn_alloc H rfl info_writer) ?_; clear H; intro b9 w3 hb9 H; have B : Buf 5 .u8 w w3 ((b9, [.slice none 0 0], 79) :: [(b8, u8s (List.replicate 32 0), 24), (b4, u8s id, 22)]) (.slice none 0 0) [] := Buf.nil H; clear H; have z4 := tt)
  | (refine st_val rfl (rn_sliceAll rfl rfl size_u8 rfl (by omega)) ?_)
  | (clear z4; go_at_call 39; refine (raw_any _ _ _ _ _ _ B _ id (Own.litM B.own0 (.tail _ (.tail _ (.head _))) h16'.out.symm) (by rw [h16'.out]; decide)).mono ?_; rintro e w4 ⟨rfl, v4, B2⟩; clear B; have B := B2; clear B2; have z5 := tt)
  | (clear z5; go_at_call 37; refine (num_any _ _ _ _ _ _ B q 4 (by omega) (by omega) (by rw [List.nil_append, h16'.out]; omega)).mono ?_; rintro e w5 ⟨rfl, v5, B2⟩; clear B; have B := B2; clear B2; have z6 := tt)
  | (clear z6; go_at_call 37; refine (num_any _ _ _ _ _ _ B n 2 (by omega) (by omega) (by rw [List.nil_append, List.length_append, h16'.out, length_numB]; omega)).mono ?_; rintro e w6 ⟨rfl, v6, B2⟩; rw [hA1.out] at B2; clear B; have B := B2; clear B2))
 go_loopw [22] (fun v22 wr => ∃ (i : Nat) (u : Value), i ≤ m ∧ v22 = .int .i64 ((i : Nat) : Int) ∧ Buf 5 .u8 w wr ((b9, [u], 79) :: [(b8, u8s (List.replicate 32 0), 24), (b4, u8s id, 22)]) u (A ++ F i)) (fun v22 _ => ((m : Nat) - intOf v22).toNat)
 case atStart => exact ⟨0, v6, by omega, rfl, by rw [hf0.out, List.append_nil]; exact B⟩
 case round =>
  clear B
  obtain ⟨i, u, hi, rfl, B⟩ := hrel
  by_cases hin : i < m
  · obtain ⟨x, hx⟩ : ∃ x, l[i]? = some x := ⟨_, List.getElem?_eq_getElem (by have := hm'.out; omega)⟩
    obtain ⟨hxo, ⟨px, cx, hxs⟩, _⟩ := O.out.el i x hx
    have hFx := Hh (hfs.out i x hx)
    obtain ⟨og, oo, hp0⟩ := O.out.addr (by have := hm'.out; omega)
    subst hp0
    have hcell : Hid (∀ w1 L1, Own w w1 L1 → (∀ b ∈ L1.map (·.1), w.heap.size ≤ b) → w1.cell? ⟨og, oo + (i : Int).toNat * 1, none⟩ = some (.slice px x.2.length cx)) := fun w1 L1 h1 h2 => by rw [← hxs]; exact O.out.cellAt h1 h2 (by simpa using hx)
    have hxo' : Hid (∀ w1 L1, Own w w1 L1 → (∀ b ∈ L1.map (·.1), w.heap.size ≤ b) → BytesAt w1 (.slice px x.2.length cx) x.2) := fun w1 L1 h1 h2 => by rw [← hxs]; exact hxo.at h1 h2
    have hl3 := Hh (hfl.out (i + 1))
    have hl4 : Hid ((F (i + 1)).length = (F i).length + x.2.length) := by show _ = _; rw [hFx.out, List.length_append]
    have hst : Hid (A ++ F i ++ x.2 = A ++ F (i + 1)) := by show _ = _; rw [hFx.out, List.append_assoc]
    obtain ⟨ys, hys⟩ : ∃ ys, x.2 = ys := ⟨_, rfl⟩
    rw [hys] at hcell hxo' hFx hl4 hst
    clear hxo hxs hx hys
    go_wp2_with (first
     | (refine st_val rfl (rn_idxSl (j := (i : Int)) rfl rfl size_sl rfl rfl (by omega) (by omega)) ?_)
     | (refine st_val rfl (rn_cell (i := oo + (i : Int).toNat * 1) rfl rfl rfl rfl (hcell.out _ _ B.own0 (by simp; omega))) ?_)
     | (go_at_call 39; refine (raw_any _ _ _ _ _ _ B _ ys (hxo'.out _ _ B.own0 (by simp; omega)) (by rw [List.length_append, hAl.out]; have := hl3.out; have := hl4.out; omega)).mono ?_; rintro e w7 ⟨rfl, v7, B2⟩; rw [hst.out] at B2; clear B; have B := B2; clear B2))
    exact ⟨⟨i + 1, _, by omega, by go_num, B⟩, by simp [intOf]; omega⟩
  · obtain rfl : i = m := by omega
    rw [hfin.out] at B
    have z7 := tt
    go_wp2_with (first
     | (clear z7; go_at_call 40; refine (bytes_any _ b9 u Z (B.own0.sub1 (.head _)) B.bytesAt B.lt (by have := hZl.out; omega)).mono ?_; rintro e w7 ⟨r, rfl, hr, h3⟩; have H := B.own0.call0 h3; clear B h3; have R7 := Hh hr; clear hr; have z8 := tt)
     | (clear z8; go_at_call 83; refine (shaSum_any _ _ Z R7.out.2.1 R7.out.2.2 (by have := hZl.out; omega)).mono ?_; rintro e w8 ⟨rfl, h3⟩; have H2 := H.call0 h3; clear H h3 R7; have H := H2; clear H2; have z9 := tt)
     | (clear z9; refine st_skip rfl (rn_storeAll (vs := u8s (sha Z)) H rfl rfl rfl (by kernel_rfl) (.tail .head) (by kernel_rfl) (oneCell_ints _ _)) ?_; clear H; intro w9 H))
    refine fin_cell rfl H rfl (.tail _ (.head _)) rfl rfl (by kernel_rfl) rfl ⟨rfl, ?_⟩
    exact H.end0 (by simp; omega)
theorem info_tree : ((Tryz.prog.info? 74).bind (·.zero)).map (fun z => z.cells.toList) = some (treeG (List.replicate 48 0) 0 0 0 (List.replicate 2048 0) 0) := by kernel_rfl
theorem tree_fill {ss : List Int} {k : Nat} (hss : (u8s ss).length = 48) : fillL [(0, 48), (48, 1), (49, 3), (52, 2048), (2100, 1)] (treeG (List.replicate 48 0) 0 0 0 (List.replicate 2048 0) 0) [(0, u8s ss), (1, [.int .i64 k])] = some (treeG ss k 0 0 (List.replicate 2048 0) 0) := by
 have h0 : ss.length = 48 := by simpa using hss
 refine fillL_cons (off := 0) (by rw [hss]; rfl) (by rw [hss, tg_len List.length_replicate List.length_replicate]; omega) (cs' := treeG ss 0 0 0 (List.replicate 2048 0) 0) ?_ (fillL_cons (off := 48) rfl (by rw [tg_len h0 List.length_replicate]; exact nB rfl) (cs' := treeG ss k 0 0 (List.replicate 2048 0) 0) ?_ rfl)
 · unfold treeG
   rw [List.append_assoc, List.append_assoc, splice_app (by rw [hss]; simp), splice_all (by rw [hss]; simp)]
 · have e := splice_right (A := u8s ss) (o := 0) (x := [Value.int .i64 k]) (B := [.int .i64 (0 : Nat)] ++ .int .u32 0 :: .int .i32 0 :: (.int .u32 0 :: (u8s (List.replicate 2048 0) ++ [.int .i64 0]))) hss
   unfold treeG
   rw [List.append_assoc, List.append_assoc]
   exact e
set_option maxRecDepth 100000 in
theorem lnew_any (w : World) (ss : List Int) (h48 : ss.length = 48) (k : Nat) (hk : k = 1 ∨ k = 2 ∨ k = 4 ∨ k = 8) :
 Calls Tryz.prog 9 #[.agg (u8s ss).toArray, .int .i64 k] w fun e w' => ∃ b, e = .returned (.tuple #[.pointer (some ⟨b, 0, none⟩), .int .i64 0]) ∧ w.heap.size ≤ b ∧ Own w w' [(b, treeG ss k 0 0 (List.replicate 2048 0) 0, 74)] := by
 have H := Own.refl w
 have hch := Hh (fun w' => chains_k w' k hk)
 obtain ⟨hC0, hC1⟩ := chN_le k
 obtain ⟨C, hC⟩ : ∃ C, C = chN k := ⟨_, rfl⟩
 rw [← hC] at hch hC0
 have hsz : Hid ((Tryz.prog.info? 26).map (·.size) = some (u8s ss).length) := by show _ = _; rw [length_ints, h48]; kernel_rfl
 have hss : Hid ((u8s ss).length = 48) := by show _ = _; rw [length_ints, h48]
 have hne : ((C : Int) == 0) = false := by rw [beq_eq_false_iff_ne]; omega
 have hne2 : ¬ (C : Int) = 0 := by omega
 clear hC hC0 hC1 h48
 go_enter Tryz.func9, Tryz.ntmps9
 have z1 := tt
 go_wp2_with (first
  | (clear z1; refine st_new rfl (rn_box (cs := u8s ss) H rfl rfl rfl) ?_; clear H; intro b2 w1 hb2 H; have z2 := tt)
  | (clear z2; go_at_call 32; refine (hch.out _).mono ?_; rintro e w2 ⟨rfl, h3⟩; replace H := H.call0 h3; clear h3; have z3 := tt)
  | (clear z3; refine st_val rfl (rn_loadAll (cs := u8s ss) H rfl rfl (.head _) rfl rfl hsz.out) ?_; have z4 := tt)
  | (clear z4; refine st_val (v := .agg (treeG ss k 0 0 (List.replicate 2048 0) 0).toArray) rfl (rn_buildS (places := [(0, 48), (48, 1), (49, 3), (52, 2048), (2100, 1)]) rfl rfl info_tree (by kernel_rfl) (by exact tree_fill hss.out)) ?_; have z5 := tt)
  | (clear z5; refine st_new rfl (rn_box (cs := treeG ss k 0 0 (List.replicate 2048 0) 0) H rfl rfl rfl) ?_; clear H; intro b12 w5 hb12 H))
 go_ret2
 exact ⟨b12, rfl, hb12, H.dropR (L1 := [_]) (by simp; omega)⟩
theorem lnew_bad (w : World) (ss : List Int) (x : Int) (hx : chainsOf x = 0) :
 Calls Tryz.prog 9 #[.agg (u8s ss).toArray, .int .i64 x] w fun e w' => e = .returned (.tuple #[.pointer none, .int .i64 1]) ∧ Own w w' [] := by
 have H := Own.refl w
 have hch := Hh (fun w' => chains_any w' x)
 rw [hx] at hch
 clear hx
 go_enter Tryz.func9, Tryz.ntmps9
 go_wp2_with (first
  | (refine st_new rfl (rn_box (cs := u8s ss) H rfl rfl rfl) ?_; clear H; intro b2 w1 hb2 H)
  | (go_at_call 32; refine (hch.out _).mono ?_; rintro e w2 ⟨rfl, h3⟩; replace H := H.call0 h3; clear h3))
 go_ret2
 exact ⟨rfl, H.end0 (by simp; omega)⟩
def sizeOfL (k : Nat) : Nat := 204 + 32 * chN k
theorem size_k (w : World) (k : Nat) (hk : k = 1 ∨ k = 2 ∨ k = 4 ∨ k = 8) : Calls Tryz.prog 17 #[.int .i64 k] w fun e w' => e = .returned (.int .i64 (sizeOfL k : Nat)) ∧ Own w w' [] := by
 have H := Own.refl w
 have hch := Hh (fun w' => chains_k w' k hk)
 have hlo := Hh (fun w' => long_any w' k)
 have hcc : chainsOf k = chN k := by rcases hk with rfl | rfl | rfl | rfl <;> rfl
 have hsz : Hid (((4 + (36 + 32 * (chN k : Int)) + 4 + 160 : Int)) = (sizeOfL k : Nat)) := by show _ = _; unfold sizeOfL; omega
 rw [hcc] at hlo
 obtain ⟨hC0, hC1⟩ := chN_le k
 obtain ⟨C, hC⟩ : ∃ C, C = chN k := ⟨_, rfl⟩
 rw [← hC] at hch hC0 hC1 hlo hsz
 have hne : ((C : Int) == 0) = false := by rw [beq_eq_false_iff_ne]; omega
 have hne2 : ¬ (C : Int) = 0 := by omega
 clear hC hcc hk
 go_enter Tryz.func17, Tryz.ntmps17
 go_wp2_with (first
  | (go_at_call 32; refine (hch.out _).mono ?_; rintro e w2 ⟨rfl, h3⟩; replace H := H.call0 h3; clear h3)
  | (go_at_call 46; refine (hlo.out _).mono ?_; rintro e w2 ⟨rfl, h3⟩; replace H := H.call0 h3; clear h3))
 rw [hsz.out]
 go_ret
 exact ⟨rfl, H⟩
end Go.Proofs.YtfihlmnbonnekaaGreat
