/- '==' of two arrays of numbers. And what stands on it. No condition. And what stands on it. No condition. -/
import Derived.Test.YtfihlmnbonnekaaGreatLow
import Derived.ChangeKeysEq
import Derived.Laws.StructEq
import Derived.Test.YtfihlmnbonnekaaGreatRows
import Derived.Test.YtfihlmnbonnekaaGreatDigA
import Derived.Laws.BitsLemmas
import Derived.Laws.Bits64

/-! '==' of two arrays of numbers. And what stands on it. No condition. -/
namespace Go.Proofs.YtfihlmnbonnekaaGreat
open Go.RowKit
set_option maxHeartbeats 32000000
section
variable {P : Program}
theorem run_part_int {e : TypeId} {k q : IntKind} (he : P.underlying e = some (.int q)) {xs : List Int} {j : Nat} (hj : j < xs.length) (w : World) : (part e (ints k xs).toArray j).run P w = .ok (.int k (xs[j]?.getD 0)) w := by
 have hg : (ints k xs).toArray[j]? = some (.int k (xs[j]?.getD 0)) := by simpa using ints_get (k := k) hj
 unfold part
 simp only [Sem.run_bind, run_isAgg he, plainDesc, Bool.not_true, Result.andThen_ok, Bool.false_eq_true, if_false, hg, Sem.run_pure]
theorem run_eqItems_ints (d : Nat) {e : TypeId} {k q : IntKind} (he : P.underlying e = some (.int q)) (xs ys : List Int) (w : World) : ∀ (is : List Nat), (∀ j ∈ is, j < xs.length ∧ j < ys.length) →
 (Op.eqItems (d + 1) e 1 (ints k xs).toArray (ints k ys).toArray is).run P w = .ok (is.all fun j => xs[j]?.getD 0 == ys[j]?.getD 0) w
 | [], _ => rfl
 | j :: is, h => by
   have hj := h j (by simp)
   have ih := run_eqItems_ints d (k := k) he xs ys w is (fun j' hj' => h j' (by simp [hj']))
   simp only [Op.eqItems, Sem.run_bind, Nat.mul_one, run_part_int he hj.1, run_part_int he hj.2, Result.andThen_ok, run_equalIn_int w d e k q _ _ he, List.all_cons]
   cases hb : (xs[j]?.getD 0 == ys[j]?.getD 0)
   · simp [Sem.run_pure]
   · simp [ih]
theorem all_eq_iff {xs ys : List Int} (h : xs.length = ys.length) : ((List.range xs.length).all fun j => xs[j]?.getD 0 == ys[j]?.getD 0) = decide (xs = ys) := by
 rw [Bool.eq_iff_iff]
 simp only [List.all_eq_true, List.mem_range, beq_iff_eq, decide_eq_true_eq]
 constructor
 · intro ha
   apply List.ext_getElem h
   intro i h1 h2
   have := ha i h1
   simpa [h1, h2] using this
 · rintro rfl _ _; rfl
theorem run_eqInts {D : Nat} (d : Nat) (hD : D = d + 2) {t e : TypeId} {k q : IntKind} {n : Nat} (hu : P.underlying t = some (.array n e)) (he : P.underlying e = some (.int q)) (hs : (P.info? e).map (·.size) = some 1) (xs ys : List Int) (hx : xs.length = n) (hy : ys.length = n) (w : World) :
 (Op.equalIn D t (.agg (ints k xs).toArray) (.agg (ints k ys).toArray)).run P w = .ok (decide (xs = ys)) w := by
 subst hD
 cases hi : P.info? e with
 | none => simp [hi] at hs
 | some i =>
   have h1 : P.cellsOf e = 1 := by simp [hi] at hs; simp [Program.cellsOf, hi, hs]
   rw [run_equalIn_array w (d + 1) _ _ hu hi, h1, run_eqItems_ints d he xs ys w _ (fun j hj => by rw [List.mem_range] at hj; omega), ← hx, all_eq_iff (by omega)]
end
set_option maxRecDepth 100000 in
theorem eqHash (w : World) (xs ys : List Int) (hx : xs.length = 32) (hy : ys.length = 32) : (Op.equalIn 10000 24 (.agg (u8s xs).toArray) (.agg (u8s ys).toArray)).run Tryz.prog w = .ok (decide (xs = ys)) w :=
 run_eqInts 9998 (by omega) (e := 5) (q := .u8) rfl rfl (by kernel_rfl) xs ys hx hy w
end Go.Proofs.YtfihlmnbonnekaaGreat
namespace Go.Proofs.YtfihlmnbonnekaaGreat
open Go.RowKit
section
variable {P : Program} {ops : Array Oper} {rest : List Oper} {o : Oper} {a : Act} {w w0 : World} {Q : Exit → Act → World → Prop} {L L' : List Ent}
theorem st_newG (hw : Region.wanted o (yielded ops a.tmps) = true) {f : Nat → Value} {g : Nat → List Ent} (hrun : ∃ n w', (execOp a.eval o).run P w = .ok (.value (f n)) w' ∧ w0.heap.size ≤ n ∧ Own w0 w' (g n))
 (h : ∀ n w', w0.heap.size ≤ n → Own w0 w' (g n) → wpList P ops Q rest (a.put o.dst (f n)) w') : wpList P ops Q (o :: rest) a w := by
 obtain ⟨n, w', hrun, hn, ho⟩ := hrun
 exact BigFrame.wpList_want hw fun K hK => by unfold Oper.wp; rw [hrun, Oper.upon_value]; exact hK _ _ (h n w' hn ho)
end
def IsBytes (hs : List Int) : Prop := ∀ i, i < hs.length → 0 ≤ hs[i]?.getD 0 ∧ hs[i]?.getD 0 < 256
theorem length_sha (bs : List Int) : (sha bs).length = 32 := rfl
theorem isBytes_bytes4 (x : Int) : ∀ y ∈ bytes4 x, 0 ≤ y ∧ y < 256 := by
 intro y hy
 simp only [bytes4, w8, List.mem_cons, List.not_mem_nil, or_false] at hy
 omega
theorem sha_mem (bs : List Int) : ∀ y ∈ sha bs, 0 ≤ y ∧ y < 256 := by
 intro y hy
 unfold sha St.bytes at hy
 simp only [List.mem_append] at hy
 rcases hy with ((((((hy | hy) | hy) | hy) | hy) | hy) | hy) | hy <;> exact isBytes_bytes4 _ y hy
theorem isBytes_sha (bs : List Int) : IsBytes (sha bs) := by
 intro i hi
 have : (sha bs)[i]?.getD 0 = (sha bs)[i] := by simp [hi]
 rw [this]
 exact sha_mem bs _ (List.getElem_mem hi)
theorem Own.lit {w0 w : World} {L : List Ent} {b : Nat} {bs : List Int} {T : TypeId} {n : Nat} (H : Own w0 w ((b, u8s bs, T) :: L)) (hn : n = bs.length) : BytesAt w (.slice (some ⟨b, 0, none⟩) n n) bs := by
 subst hn
 exact Or.inr ⟨b, 0, bs.length, rfl, ⟨Nat.le_refl _, fun h => by rw [List.eq_nil_of_length_eq_zero h]; rfl⟩, fun i x hx => by rw [H.cell (.head _), Nat.zero_add]; exact hx⟩
theorem Own.pop {w0 w : World} {L : List Ent} {b : Nat} {cs : List Value} {T : TypeId} (H : Own w0 w ((b, cs, T) :: L)) (hb : w0.heap.size ≤ b) : Own w0 w L := Own.drop (L1 := [(b, cs, T)]) H (by simpa using hb)
theorem rem_wrap (x m : Int) (h0 : 0 < m) (h1 : m ≤ 4611686018427387904) : ∃ n : Nat, wrap64 ((IntKind.u64.wrap x).tmod m) = (n : Int) ∧ (n : Int) < m := by
 have hx := wrap_u64_nonneg x
 generalize IntKind.u64.wrap x = y at hx
 have h2 : y.tmod m = y % m := Int.tmod_eq_emod_of_nonneg hx
 have h3 := Int.emod_nonneg y (b := m) (by omega)
 have h4 := Int.emod_lt_of_pos y h0
 refine ⟨(y % m).toNat, ?_, by omega⟩
 rw [h2, Int.toNat_of_nonneg h3]
 unfold wrap64
 omega
def BIn (xs : List Int) : World → Value → Prop := fun w v => (∃ p c, v = .slice p xs.length c) ∧ BytesAt w v xs ∧ ∀ k, blk v = some k → k < w.heap.size
theorem BIn.mono (xs : List Int) : Mono (BIn xs) := fun _ _ _ h ⟨h1, h2, h3⟩ => ⟨h1, SlAt.own0 h2 h, fun k hk => Nat.lt_of_lt_of_le (h3 k hk) h.size⟩
section
variable {P : Program} {ops : Array Oper} {w : World} {K : (World → (Nat → Prop) → Prop) → Act → Prop} {sps : List Sp} {o : Oper} {rest : List Oper} {F : World → (Nat → Prop) → Prop} {a : Act} {v : Value}
end
end Go.Proofs.YtfihlmnbonnekaaGreat
namespace Go.Proofs.YtfihlmnbonnekaaGreat
open Go.RowKit
theorem Buf.lt {e : TypeId} {k : IntKind} {w0 w : World} {L : List Ent} {v : Value} {xs : List Int} (h : Buf e k w0 w L v xs) : ∀ j, blk v = some j → j < w.heap.size := by
 obtain ⟨Lv, ⟨_, ⟨rfl, _, _⟩ | ⟨g, cap, cs, rfl, rfl, _⟩⟩, h2, _⟩ := h
 · intro j hj; cases hj
 · intro j hj
   obtain rfl : g = j := (blk_some hj).1
   exact h2.lt (cs := cs) (T := e) (by simp)
theorem Own.callAt {w0 w w' : World} {L1 L2 : List Ent} {b : Nat} {cs cs' : List Value} {T T' : TypeId} (h : Own w0 w (L1 ++ (b, cs, T) :: L2)) (hu : Own w w' [(b, cs', T')]) : Own w0 w' (L1 ++ (b, cs', T') :: L2) :=
 (Own.call1 (h.perm List.perm_middle) hu).perm List.perm_middle.symm
theorem Own.callNew {w0 w w' : World} {L : List Ent} {b : Nat} {cs : List Value} {T : TypeId} (h : Own w0 w L) (hu : Own w w' [(b, cs, T)]) (hb : w.heap.size ≤ b) : Own w0 w' ((b, cs, T) :: L) :=
 Own.call (L1 := []) (L1' := [(b, cs, T)]) h ⟨hu, by simpa using hb⟩ (by simp)
theorem OldL.addr {w : World} {p : Option Addr} {n c : Nat} {ls : List (Value × List Int)} (h : OldL w (.slice p n c) ls) (hn : 0 < ls.length) : ∃ b off, p = some ⟨b, off, none⟩ := by
 rcases h.sl with ⟨_, h0, _⟩ | ⟨b, off, cap, hv, _, _⟩
 · omega
 · cases hv; exact ⟨b, off, rfl⟩
theorem OldL.cellAt {w w1 : World} {b off n c : Nat} {ls : List (Value × List Int)} {L : List Ent} (h : OldL w (.slice (some ⟨b, off, none⟩) n c) ls) (ho : Own w w1 L) (hn : ∀ k ∈ L.map (·.1), w.heap.size ≤ k) {i : Nat} {x : Value × List Int} (hx : ls[i]? = some x) :
 w1.cell? ⟨b, off + i * 1, none⟩ = some x.1 := by
 have hi := (List.getElem?_eq_some_iff.1 hx).1
 have h1 : SlAt w1 (.slice (some ⟨b, off, none⟩) n c) ls.length (ls.map (·.1)) := SlAt.own h.sl ho (fun j hj hm => by have := h.lt j hj; have := hn j hm; omega)
 rcases h1 with ⟨_, h0, _⟩ | ⟨b', off', cap, hv, _, hc⟩
 · omega
 · cases hv
   rw [Nat.mul_one]
   exact hc i x.1 (by rw [List.getElem?_map, hx]; rfl)
theorem Buf.callNew {e : TypeId} {k : IntKind} {w0 w w' : World} {L : List Ent} {v : Value} {xs : List Int} {b : Nat} {cs : List Value} {T : TypeId} (h : Buf e k w0 w L v xs) (hu : Own w w' [(b, cs, T)]) (hb : w.heap.size ≤ b) : Buf e k w0 w' ((b, cs, T) :: L) v xs := by
 obtain ⟨Lv, h1, h2, h3⟩ := h
 exact ⟨Lv, h1, (h2.callNew hu hb).perm List.perm_middle.symm, h3⟩
theorem size_sl : (Tryz.prog.info? 27).map (·.size) = some 1 := by kernel_rfl
end Go.Proofs.YtfihlmnbonnekaaGreat

/-! More steps: arrays of structs, a result in a cell beside one in a temporary. No dump, no condition. -/
namespace Go.Proofs.YtfihlmnbonnekaaGreat
open Go.RowKit
set_option maxHeartbeats 32000000
section
variable {P : Program} {ops : Array Oper} {rest : List Oper} {o : Oper} {a : Act} {w w0 : World} {Q : Exit → Act → World → Prop} {L L' : List Ent}
theorem rn_idxAggs {t e : TypeId} {x ix : Operand} (ho : o.op = .index t x ix) {n : Nat} (hu : P.underlying t = some (.array n e)) {sz : Nat} (hs : (P.info? e).map (·.size) = some sz) {d : TypeDesc} (hd : P.underlying e = some d) (hp : plainDesc d = false)
 {cs : Array Value} (hx : a.eval x = .agg cs) {ki : IntKind} {i : Int} (hj : a.eval ix = .int ki i) (h0 : 0 ≤ i) (h1 : i < n) {v : Value} (hv : Value.agg (cs.extract (i.toNat * sz) (i.toNat * sz + sz)) = v) : (execOp a.eval o).run P w = .ok (.value v) w := by
 subst hv
 unfold execOp
 simp only [ho, hx, hj, Instr.index, asIntOf, Sem.run_bind, Sem.run_pure, Result.andThen_ok, run_underlying hu]
 rw [if_pos ⟨h0, h1⟩]
 simp only [Sem.run_bind, run_sizeOf hs, Result.andThen_ok, part, run_isAgg hd, hp, Bool.not_false, if_true, Sem.run_pure]
theorem fin_cell2 {fn : Func} {R : Ending → World → Prop} {p ty q : Nat} (h : fn.results = #[.cell p ty, .tmp q]) (H : Own w0 w L) {b : Nat} (hp : a.tmps.getD p undef = .pointer (some ⟨b, 0, none⟩)) {cs : List Value} {T : TypeId} (hm : (b, cs, T) ∈ L)
 {d : TypeDesc} (hu : P.underlying ty = some d) (hd : plainDesc d = false) (hs : (P.info? ty).map (·.size) = some cs.length) {v : Value} (hv : a.tmps.getD q undef = v) (hdf : a.defers = []) (hR : R (.returned (.tuple #[.agg cs.toArray, v])) w) : bodyPost P fn R .ret a w := by
 refine bodyPost_ret (v := .tuple #[.agg cs.toArray, v]) ?_ hdf hR
 have hp' : a.tmps[p]?.getD undef = .pointer (some ⟨b, 0, none⟩) := by simpa using hp
 have hv' : a.tmps[q]?.getD undef = v := by simpa using hv
 have hl := run_loadVar_cells (P := P) (w := w) (b := b) (i := 0) (vs := cs) hu hd hs (fun j v hv => by rw [H.cell hm]; simpa using hv)
 simp [results, h, hp', hv', asAddr, hl]
end
end Go.Proofs.YtfihlmnbonnekaaGreat

/-! ots: the widths, and how digits of a width are. -/
namespace Go.Proofs.YtfihlmnbonnekaaGreat
open Go.RowKit
set_option maxHeartbeats 32000000
abbrev i64s (xs : List Int) : List Value := ints .i64 xs
theorem info_kinds : ((Tryz.prog.info? 134).bind (·.zero)).map (fun z => z.cells.toList) = some (i64s (List.replicate 16 0)) := by kernel_rfl
theorem info_kind : ((Tryz.prog.info? 107).bind (·.zero)).map (fun z => z.cells.toList) = some (i64s [0, 0, 0, 0]) := by kernel_rfl
set_option maxRecDepth 100000 in
theorem kinds_any (w : World) : Calls Tryz.prog 86 #[] w fun e w' => e = .returned (.agg (i64s [1, 1, 265, 7, 2, 2, 133, 6, 4, 3, 67, 4, 8, 4, 34, 0]).toArray) ∧ Own w w' [] := by
 have H := Own.refl w
 go_enter Tryz.func86, Tryz.ntmps86
 go_wp2_with (first
  | (refine st_new rfl (rn_alloc H rfl info_kinds) ?_; clear H; intro b w1 hb H)
  | (refine st_skip rfl (rn_storeAll (vs := i64s [1, 1, 265, 7, 2, 2, 133, 6, 4, 3, 67, 4, 8, 4, 34, 0]) H rfl rfl rfl (by kernel_rfl) .head (by kernel_rfl) (oneCell_ints _ _)) ?_; clear H; intro w8 H))
 refine fin_cell rfl H rfl (.head _) rfl rfl (by kernel_rfl) rfl ⟨rfl, H.end0 (by simpa using hb)⟩
def wOf : Nat → Int
 | 0 => 1
 | 1 => 2
 | 2 => 4
 | _ => 8
def krow : Nat → List Int
 | 0 => [1, 1, 265, 7]
 | 1 => [2, 2, 133, 6]
 | 2 => [4, 3, 67, 4]
 | _ => [8, 4, 34, 0]
def kindOf (x : Int) : List Int := if x = 1 then [1, 1, 265, 7] else if x = 2 then [2, 2, 133, 6] else if x = 4 then [4, 3, 67, 4] else if x = 8 then [8, 4, 34, 0] else [0, 0, 0, 0]
def isW (x : Int) : Bool := decide (x = 1 ∨ x = 2 ∨ x = 4 ∨ x = 8)
theorem krow_at {i : Nat} (h : i < 4) : Value.agg ((i64s [1, 1, 265, 7, 2, 2, 133, 6, 4, 3, 67, 4, 8, 4, 34, 0]).toArray.extract (((i : Nat) : Int).toNat * 4) (((i : Nat) : Int).toNat * 4 + 4)) = .agg (i64s (krow i)).toArray := by
 match i, h with
 | 0, _ => rfl
 | 1, _ => rfl
 | 2, _ => rfl
 | 3, _ => rfl
theorem kind_hit {i : Nat} {x : Int} (h : i < 4) (hx : wOf i = x) : kindOf x = krow i ∧ isW x = true := by
 subst hx
 match i, h with
 | 0, _ => exact ⟨rfl, rfl⟩
 | 1, _ => exact ⟨rfl, rfl⟩
 | 2, _ => exact ⟨rfl, rfl⟩
 | 3, _ => exact ⟨rfl, rfl⟩
theorem kind_miss {x : Int} (h : ∀ j, j < 4 → wOf j ≠ x) : kindOf x = [0, 0, 0, 0] ∧ isW x = false := by
 have h1 : x ≠ 1 := fun e => h 0 (by omega) e.symm
 have h2 : x ≠ 2 := fun e => h 1 (by omega) e.symm
 have h3 : x ≠ 4 := fun e => h 2 (by omega) e.symm
 have h4 : x ≠ 8 := fun e => h 3 (by omega) e.symm
 simp [kindOf, isW, h1, h2, h3, h4]
theorem krow_cons (i : Nat) : ∃ c, krow i = wOf i :: c := by
 match i with
 | 0 => exact ⟨_, rfl⟩
 | 1 => exact ⟨_, rfl⟩
 | 2 => exact ⟨_, rfl⟩
 | _ + 3 => exact ⟨_, rfl⟩
theorem krow_len (i : Nat) : (krow i).length = 4 := by
 match i with
 | 0 => rfl
 | 1 => rfl
 | 2 => rfl
 | _ + 3 => rfl
set_option maxRecDepth 100000 in
theorem of_any (w : World) (x : Int) : Calls Tryz.prog 61 #[.int .i64 x] w fun e w' => e = .returned (.tuple #[.agg (i64s (kindOf x)).toArray, .bool (isW x)]) ∧ Own w w' [] := by
 have H := Own.refl w
 have z1 := tt
 go_enter Tryz.func61, Tryz.ntmps61
 go_wp2_with (first
  | (clear z1; refine st_new rfl (rn_alloc H rfl info_kind) ?_; clear H; intro r w1 hr H; have z2 := tt)
  | (clear z2; go_at_call 86; refine (kinds_any _).mono ?_; rintro e w2 ⟨rfl, h3⟩; replace H := H.call0 h3; clear h3))
 go_loopw [3, 5, 7] (fun v3 _ v7 wr => ∃ i : Nat, i ≤ 4 ∧ v3 = .bool false ∧ v7 = .int .i64 ((i : Nat) : Int) ∧ (∀ j, j < i → wOf j ≠ x) ∧ Own w wr [(r, i64s [0, 0, 0, 0], 107)]) (fun _ _ v7 _ => ((4 : Int) - intOf v7).toNat)
 case atStart => exact ⟨0, by omega, rfl, rfl, fun j hj => by omega, H⟩
 case round =>
  clear H
  obtain ⟨i, hi, rfl, rfl, hno, H⟩ := hrel
  have hno' := Hh hno
  clear hno
  by_cases hin : i < 4
  · obtain ⟨c, hc⟩ := krow_cons i
    have hlen := Hh (krow_len i)
    have hidx := Hh (krow_at hin)
    have hhit := Hh (fun h : wOf i = x => kind_hit hin h)
    obtain ⟨kr, hkr⟩ : ∃ k, k = krow i := ⟨_, rfl⟩
    rw [← hkr] at hc hlen hidx hhit
    obtain ⟨wi, hwi⟩ : ∃ k, k = wOf i := ⟨_, rfl⟩
    rw [← hwi] at hc hhit
    have h0 : Hid ((i64s kr)[0]? = some (.int .i64 wi)) := by show _ = _; rw [hc]; rfl
    have hl4 : Hid ((i64s kr).length = 4) := by show _ = _; rw [length_ints]; exact hlen.out
    have hsz : Hid ((Tryz.prog.info? 107).map (·.size) = some (i64s kr).length) := by show _ = _; rw [hl4.out]; kernel_rfl
    have hmiss : Hid (wi ≠ x → ∀ j, j < i + 1 → wOf j ≠ x) := fun h j hj => by
     rcases Nat.lt_or_ge j i with h1 | h1
     · exact hno'.out j h1
     · obtain rfl : j = i := by omega
       rw [← hwi]; exact h
    clear hc hkr hwi
    by_cases hx : wi = x
    · have hk := Hh (hhit.out hx)
      subst hx
      go_wp2_with (first
       | (refine st_val rfl (rn_idxAggs rfl rfl (by kernel_rfl) rfl rfl rfl rfl (by omega) (by omega) hidx.out) ?_)
       | (refine st_new rfl (rn_alloc H rfl info_kind) ?_; clear H; intro b w3 hb H)
       | (refine st_skip rfl (rn_storeAll (vs := i64s kr) H rfl rfl rfl hsz.out .head (by rw [hl4.out]; rfl) (oneCell_ints _ _)) ?_; clear H; intro w4 H)
       | (refine st_val rfl (rn_load H rfl rfl (.head _) rfl rfl h0.out) ?_)
       | (refine st_val rfl (rn_loadAll H rfl rfl (.head _) rfl rfl hsz.out) ?_)
       | (refine st_skip rfl (rn_storeAll (vs := i64s kr) H rfl rfl rfl hsz.out (.tail .head) (by rw [hl4.out]; rfl) (oneCell_ints _ _)) ?_; clear H; intro w5 H))
      refine fin_cell2 rfl H rfl (.tail _ (.head _)) rfl rfl hsz.out rfl rfl ⟨?_, H.end0 (by simp; exact ⟨hb, hr⟩)⟩
      rw [hk.out.1, hk.out.2]; rfl
    · have hm := Hh (hmiss.out hx)
      go_wp2_with (first
       | (refine st_val rfl (rn_idxAggs rfl rfl (by kernel_rfl) rfl rfl rfl rfl (by omega) (by omega) hidx.out) ?_)
       | (refine st_new rfl (rn_alloc H rfl info_kind) ?_; clear H; intro b w3 hb H)
       | (refine st_skip rfl (rn_storeAll (vs := i64s kr) H rfl rfl rfl hsz.out .head (by rw [hl4.out]; rfl) (oneCell_ints _ _)) ?_; clear H; intro w4 H)
       | (refine st_val rfl (rn_load H rfl rfl (.head _) rfl rfl h0.out) ?_))
      exact ⟨⟨i + 1, by omega, rfl, by go_num, hm.out, H.pop hb⟩, by simp [intOf]; omega⟩
  · obtain rfl : i = 4 := by omega
    have hk := Hh (kind_miss hno'.out)
    go_wp2_with (refine st_skip rfl (rn_storeAll (vs := i64s [0, 0, 0, 0]) H rfl rfl rfl (by kernel_rfl) .head (by kernel_rfl) (oneCell_ints _ _)) ?_; clear H; intro w8 H)
    refine fin_cell2 rfl H rfl (.head _) rfl rfl (by kernel_rfl) rfl rfl ⟨?_, H.end0 (by simpa using hr)⟩
    rw [hk.out.1, hk.out.2]; rfl
theorem kindOf_cons (x : Int) : ∃ a b c d, kindOf x = [a, b, c, d] := by
 unfold kindOf
 repeat (first | exact ⟨_, _, _, _, rfl⟩ | split)
def chainsOf (x : Int) : Int := if x = 1 then 265 else if x = 2 then 133 else if x = 4 then 67 else if x = 8 then 34 else 0
def codeOf (x : Int) : Int := if x = 1 then 1 else if x = 2 then 2 else if x = 4 then 3 else if x = 8 then 4 else 0
def shiftOf (x : Int) : Int := if x = 1 then 7 else if x = 2 then 6 else if x = 4 then 4 else 0
theorem kindOf_eq (x : Int) : kindOf x = [if isW x then x else 0, codeOf x, chainsOf x, shiftOf x] := by
 unfold kindOf isW codeOf chainsOf shiftOf
 by_cases h1 : x = 1
 · subst h1; rfl
 · by_cases h2 : x = 2
   · subst h2; rfl
   · by_cases h3 : x = 4
     · subst h3; rfl
     · by_cases h4 : x = 8
       · subst h4; rfl
       · simp [h1, h2, h3, h4]
theorem chainsOf_pos (x : Int) : decide (0 < chainsOf x) = isW x := by
 unfold chainsOf isW
 by_cases h1 : x = 1
 · subst h1; rfl
 · by_cases h2 : x = 2
   · subst h2; rfl
   · by_cases h3 : x = 4
     · subst h3; rfl
     · by_cases h4 : x = 8
       · subst h4; rfl
       · simp [h1, h2, h3, h4]
theorem chainsOf_le (x : Int) : 0 ≤ chainsOf x ∧ chainsOf x ≤ 265 := by
 unfold chainsOf
 repeat (first | omega | split)
set_option maxRecDepth 100000 in
theorem chains_any (w : World) (x : Int) : Calls Tryz.prog 32 #[.int .i64 x] w fun e w' => e = .returned (.int .i64 (chainsOf x)) ∧ Own w w' [] := by
 have H := Own.refl w
 have hsz : Hid ((Tryz.prog.info? 107).map (·.size) = some (i64s (kindOf x)).length) := by obtain ⟨a, b, c, d, h⟩ := kindOf_cons x; show _ = _; rw [h]; kernel_rfl
 have hl : Hid ((i64s (kindOf x)).length = 4) := by obtain ⟨a, b, c, d, h⟩ := kindOf_cons x; show _ = _; rw [h]; rfl
 have h2 : Hid ((i64s (kindOf x))[2]? = some (.int .i64 (chainsOf x))) := by show _ = _; rw [kindOf_eq]; rfl
 obtain ⟨kc, hkc⟩ : ∃ k, k = i64s (kindOf x) := ⟨_, rfl⟩
 obtain ⟨cx, hcx⟩ : ∃ k, k = chainsOf x := ⟨_, rfl⟩
 have h1 : Hid (∀ v ∈ kc, v.oneCell' = true) := by rw [hkc]; exact oneCell_ints _ _
 have hof : Hid (Calls Tryz.prog 61 #[.int .i64 x] w fun e w' => e = .returned (.tuple #[.agg kc.toArray, .bool (isW x)]) ∧ Own w w' []) := by rw [hkc]; exact of_any w x
 rw [← hkc] at hsz hl h2
 rw [← hcx] at h2 ⊢
 clear hkc hcx
 go_enter Tryz.func32, Tryz.ntmps32
 go_wp2_with (first
  | (go_at_call 61; refine hof.out.mono ?_; rintro e w2 ⟨rfl, h3⟩; replace H := H.call0 h3; clear h3)
  | (refine st_new rfl (rn_alloc H rfl info_kind) ?_; clear H; intro r w1 hr H)
  | (refine st_skip rfl (rn_storeAll (vs := kc) H rfl rfl rfl hsz.out .head (by rw [hl.out]; rfl) h1.out) ?_; clear H; intro w4 H)
  | (refine st_val rfl (rn_load H rfl rfl (.head _) rfl rfl h2.out) ?_))
 have H' := Hh (H.end0 (by simpa using hr))
 go_ret
 exact ⟨rfl, H'.out⟩
set_option maxRecDepth 100000 in
theorem code_any (w : World) (x : Int) : Calls Tryz.prog 38 #[.int .i64 x] w fun e w' => e = .returned (.int .i64 (codeOf x)) ∧ Own w w' [] := by
 have H := Own.refl w
 have hsz : Hid ((Tryz.prog.info? 107).map (·.size) = some (i64s (kindOf x)).length) := by obtain ⟨a, b, c, d, h⟩ := kindOf_cons x; show _ = _; rw [h]; kernel_rfl
 have hl : Hid ((i64s (kindOf x)).length = 4) := by obtain ⟨a, b, c, d, h⟩ := kindOf_cons x; show _ = _; rw [h]; rfl
 have h2 : Hid ((i64s (kindOf x))[1]? = some (.int .i64 (codeOf x))) := by show _ = _; rw [kindOf_eq]; rfl
 obtain ⟨kc, hkc⟩ : ∃ k, k = i64s (kindOf x) := ⟨_, rfl⟩
 obtain ⟨cx, hcx⟩ : ∃ k, k = codeOf x := ⟨_, rfl⟩
 have h1 : Hid (∀ v ∈ kc, v.oneCell' = true) := by rw [hkc]; exact oneCell_ints _ _
 have hof : Hid (Calls Tryz.prog 61 #[.int .i64 x] w fun e w' => e = .returned (.tuple #[.agg kc.toArray, .bool (isW x)]) ∧ Own w w' []) := by rw [hkc]; exact of_any w x
 rw [← hkc] at hsz hl h2
 rw [← hcx] at h2 ⊢
 clear hkc hcx
 go_enter Tryz.func38, Tryz.ntmps38
 go_wp2_with (first
  | (go_at_call 61; refine hof.out.mono ?_; rintro e w2 ⟨rfl, h3⟩; replace H := H.call0 h3; clear h3)
  | (refine st_new rfl (rn_alloc H rfl info_kind) ?_; clear H; intro r w1 hr H)
  | (refine st_skip rfl (rn_storeAll (vs := kc) H rfl rfl rfl hsz.out .head (by rw [hl.out]; rfl) h1.out) ?_; clear H; intro w4 H)
  | (refine st_val rfl (rn_load H rfl rfl (.head _) rfl rfl h2.out) ?_))
 have H' := Hh (H.end0 (by simpa using hr))
 go_ret
 exact ⟨rfl, H'.out⟩
set_option maxRecDepth 100000 in
theorem long_any (w : World) (x : Int) : Calls Tryz.prog 46 #[.int .i64 x] w fun e w' => e = .returned (.int .i64 (36 + 32 * chainsOf x)) ∧ Own w w' [] := by
 have H := Own.refl w
 obtain ⟨h0, h1⟩ := chainsOf_le x
 have hof := Hh (chains_any w x)
 obtain ⟨cx, hcx⟩ : ∃ k, k = chainsOf x := ⟨_, rfl⟩
 rw [← hcx] at h0 h1 hof ⊢
 clear hcx
 go_enter Tryz.func46, Tryz.ntmps46
 go_wp2_with (go_at_call 32; refine hof.out.mono ?_; rintro e w2 ⟨rfl, h3⟩; replace H := H.call0 h3; clear h3)
 have H' := Hh H
 go_ret
 exact ⟨rfl, H'.out⟩
def mayB (q x : Int) : Bool := decide (0 ≤ q) && decide (q < 32) && isW x
set_option maxRecDepth 100000 in
theorem may_any (w : World) (q x : Int) : Calls Tryz.prog 71 #[.int .i64 q, .int .i64 x] w fun e w' => e = .returned (.bool (mayB q x)) ∧ Own w w' [] := by
 have H := Own.refl w
 have hof := Hh (chains_any w x)
 have hpos := Hh (chainsOf_pos x)
 obtain ⟨cx, hcx⟩ : ∃ k, k = chainsOf x := ⟨_, rfl⟩
 rw [← hcx] at hof hpos
 clear hcx
 by_cases h0 : 0 ≤ q
 · by_cases h1 : q < 32
   · have hm : Hid (mayB q x = decide (0 < cx)) := by show _ = _; unfold mayB; rw [decide_eq_true h0, decide_eq_true h1, hpos.out]; rfl
     go_enter Tryz.func71, Tryz.ntmps71
     go_wp2_with (go_at_call 32; refine hof.out.mono ?_; rintro e w2 ⟨rfl, h3⟩; replace H := H.call0 h3; clear h3)
     have H' := Hh H
     go_ret
     exact ⟨by rw [hm.out]; rfl, H'.out⟩
   · have hm : Hid (mayB q x = false) := by show _ = _; unfold mayB; rw [decide_eq_false h1]; simp
     have H' := Hh H
     go_enter Tryz.func71, Tryz.ntmps71
     go_wp2_with fail
     go_ret
     exact ⟨by rw [hm.out]; rfl, H'.out⟩
 · have hm : Hid (mayB q x = false) := by show _ = _; unfold mayB; rw [decide_eq_false h0]; rfl
   have H' := Hh H
   go_enter Tryz.func71, Tryz.ntmps71
   go_wp2_with fail
   go_ret
   exact ⟨by rw [hm.out]; rfl, H'.out⟩
set_option maxRecDepth 100000 in
theorem refChains_any (w : World) (x : Int) : Calls Tryz.prog 54 #[.int .i64 x] w fun e w' => e = .returned (.int .i64 (chainsOf x)) ∧ Own w w' [] := by
 have H' := Hh (Own.refl w)
 by_cases h1 : x = 1
 · subst h1
   go_enter Tryz.func54, Tryz.ntmps54
   go_wp2_with fail
   go_ret
   exact ⟨rfl, H'.out⟩
 · by_cases h2 : x = 2
   · subst h2
     go_enter Tryz.func54, Tryz.ntmps54
     go_wp2_with fail
     go_ret
     exact ⟨rfl, H'.out⟩
   · by_cases h3 : x = 4
     · subst h3
       go_enter Tryz.func54, Tryz.ntmps54
       go_wp2_with fail
       go_ret
       exact ⟨rfl, H'.out⟩
     · by_cases h4 : x = 8
       · subst h4
         go_enter Tryz.func54, Tryz.ntmps54
         go_wp2_with fail
         go_ret
         exact ⟨rfl, H'.out⟩
       · have hc : Hid (chainsOf x = 0) := by show _ = _; simp [chainsOf, h1, h2, h3, h4]
         go_enter Tryz.func54, Tryz.ntmps54
         go_wp2_with fail
         go_ret
         exact ⟨by rw [hc.out]; rfl, H'.out⟩
end Go.Proofs.YtfihlmnbonnekaaGreat
