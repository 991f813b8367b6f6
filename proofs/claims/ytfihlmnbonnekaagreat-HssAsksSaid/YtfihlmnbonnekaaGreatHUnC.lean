/- hss: the tree below a leaf, asked for. -/
import Derived.Test.YtfihlmnbonnekaaGreatHUnB
namespace Go.Proofs.YtfihlmnbonnekaaGreat
open Go.RowKit
set_option maxHeartbeats 32000000
set_option linter.unusedVariables false
theorem st_stR {P : Program} {ops : Array Oper} {Q : Exit → Act → World → Prop} {rest : List Oper} {o : Oper} {a : Act} {w0 w : World} {L L' : List Ent} (hg : o.guard = none) (H : Own w0 w L) {ty : TypeId} {x y : Operand} (ho : o.op = .store ty x y) {b i : Nat} (hx : a.eval x = .pointer (some ⟨b, i, none⟩)) {v : Value} (hy : a.eval y = v) (hs : (P.info? ty).map (·.size) = some 1)
 {cs : List Value} {T : TypeId} (hm : At L b cs T (cs.set i v) L') (hi : i < cs.length) (h1 : v.oneCell' = true)
 (h : ∀ w', Own w0 w' L' → wpList P ops Q rest (a.put o.dst undef) w') : wpList P ops Q (o :: rest) a w := by
 obtain ⟨w', hrun, E'⟩ := rn_store H ho hx hy hs hm hi h1
 exact wpList_plain hg fun K hK => by unfold Oper.wp; rw [hrun, Oper.upon_skip]; exact hK _ _ (h w' E')
theorem perm5 {α : Type} {a b c d e : α} : [a, b, c, d, e].Perm [d, e, c, b, a] := (List.perm_append_comm (l₁ := [a, b, c]) (l₂ := [d, e])).trans (List.Perm.append_left [d, e] (List.reverse_perm [a, b, c]).symm)
theorem NewB.le {B B' m : Nat} {xs : List Int} {w : World} {v : Value} (h : B ≤ B') : NewB B' m xs w v → NewB B m xs w v := fun ⟨p, c, h1, h2, h3⟩ => ⟨p, c, h1, h2.le h, fun k hk => Nat.le_trans h (h3 k hk)⟩
set_option maxRecDepth 100000 in
theorem underO_any (w w1 : World) (kb tb b2 b3 b5 : Nat) (q : Nat) (hq : q < 32) (l : Int) (id sd : List Int) (h16 : id.length = 16) (h32 : sd.length = 32) (k : Nat) (hk : k = 1 ∨ k = 2 ∨ k = 4 ∨ k = 8) (ss : List Int) (hss : ss = id ++ sd) (cs : List Value) (hcs : IsTree id sd k cs) {n : Nat} (hn : n = sizeOfL k) (hkb : kb < w.heap.size)
 (H : Own w w1 [(b5, [.pointer (some ⟨kb, 51 + 6 * q, none⟩)], 102), (b3, [.int .i64 q], 3), (b2, [.pointer (some ⟨kb, 0, none⟩)], 51), (kb, keyR ss k l (.pointer (some ⟨tb, 0, none⟩)) q (.int .u32 0) (.int .i32 0) (.pointer none) (.slice none 0 0) (.slice none 0 0), 98), (tb, cs, 74)]) :
 Calls Tryz.prog 67 #[.pointer (some ⟨kb, 51 + 6 * q, none⟩), .func (.func 84) #[] #[.pointer (some ⟨b2, 0, none⟩), .pointer (some ⟨b3, 0, none⟩), .pointer (some ⟨b5, 0, none⟩)]] w1 fun e w' => e = .returned (.tuple #[]) ∧ ∃ lt pv sv, TreeAt w' lt (cidOf id sd q) (csdOf id sd q) k ∧ NewB w.heap.size 56 (pubL (cidOf id sd q) (csdOf id sd q) k) w' pv ∧ NewB w.heap.size n (lsigOf id sd k q (pubL (cidOf id sd q) (csdOf id sd q) k)) w' sv ∧ w.heap.size ≤ lt ∧ Own w w' [(b5, [.pointer (some ⟨kb, 51 + 6 * q, none⟩)], 102), (b3, [.int .i64 q], 3), (b2, [.pointer (some ⟨kb, 0, none⟩)], 51), (kb, keyR ss k l (.pointer (some ⟨tb, 0, none⟩)) q (.int .u32 1) (.int .i32 0) (.pointer (some ⟨lt, 0, none⟩)) pv sv, 98), (tb, fullT id sd k, 74)] := by
 have h48 : ss.length = 48 := by rw [hss, List.length_append, h16, h32]
 refine (once_firstE (off := 51 + 6 * q) (A := hdQ ss k l (.pointer (some ⟨tb, 0, none⟩)) q) (A' := hdQ ss k l (.pointer (some ⟨tb, 0, none⟩)) q) (Z := tlQ (.pointer none) (.slice none 0 0) (.slice none 0 0) q) (T := 98) (L := [(tb, cs, 74), (b2, [.pointer (some ⟨kb, 0, none⟩)], 51), (b3, [.int .i64 q], 3), (b5, [.pointer (some ⟨kb, 51 + 6 * q, none⟩)], 102)]) (L' := [(tb, fullT id sd k, 74), (b2, [.pointer (some ⟨kb, 0, none⟩)], 51), (b3, [.int .i64 q], 3), (b5, [.pointer (some ⟨kb, 51 + 6 * q, none⟩)], 102)]) (fun Z w' => ∃ lt pv sv, Z = tlQ (.pointer (some ⟨lt, 0, none⟩)) pv sv q ∧ TreeAt w' lt (cidOf id sd q) (csdOf id sd q) k ∧ NewB w.heap.size 56 (pubL (cidOf id sd q) (csdOf id sd q) k) w' pv ∧ NewB w.heap.size n (lsigOf id sd k q (pubL (cidOf id sd q) (csdOf id sd q) k)) w' sv ∧ w.heap.size ≤ lt) (fun Z w2 w3 cs2 ho ⟨lt, pv, sv, e, g1, g2, g3, g4⟩ => ⟨lt, pv, sv, e, heap_mv1 ho (by omega) g1, NewB.pres hkb _ _ _ ⟨_, ho⟩ g2, NewB.pres hkb _ _ _ ⟨_, ho⟩ g3, g4⟩) (length_hdQ h48 _ _ _ _) (length_hdQ h48 _ _ _ _) 84 _ _ Tryz.func84 (by kernel_rfl) (by kernel_rfl) (H.perm perm5) (fun w2 h2 => ?_)).mono ?_
 · refine (under1_any w2 kb tb b2 b3 b5 q hq l id sd h16 h32 k hk ss hss cs hcs hn h2.self).mono ?_
   rintro e w3 ⟨h3, lt, pv, sv, g1, g2, g3, g4, h4⟩
   exact ⟨h3, _, ⟨lt, pv, sv, rfl, g1, NewB.le h2.size g2, NewB.le h2.size g3, Nat.le_trans h2.size g4⟩, Own.next (L := [_, _, _, _, _]) (M := []) h2 h4 rfl⟩
 · rintro e w3 ⟨h3, Z', ⟨lt, pv, sv, rfl, g1, g2, g3, g4⟩, h4⟩
   exact ⟨h3, lt, pv, sv, g1, g2, g3, g4, h4.perm perm5.symm⟩
set_option maxRecDepth 100000 in
theorem under_new (w : World) (kb tb : Nat) (q : Nat) (hq : q < 32) (l : Int) (id sd : List Int) (h16 : id.length = 16) (h32 : sd.length = 32) (k : Nat) (hk : k = 1 ∨ k = 2 ∨ k = 4 ∨ k = 8) (ss : List Int) (hss : ss = id ++ sd) (cs : List Value) (hcs : IsTree id sd k cs) {n : Nat} (hn : n = sizeOfL k)
 (H0 : Own w w [(kb, keyR ss k l (.pointer (some ⟨tb, 0, none⟩)) q (.int .u32 0) (.int .i32 0) (.pointer none) (.slice none 0 0) (.slice none 0 0), 98), (tb, cs, 74)]) :
 Calls Tryz.prog 58 #[.pointer (some ⟨kb, 0, none⟩), .int .i64 q] w fun e w' => e = .returned (.pointer (some ⟨kb, 51 + 6 * q, none⟩)) ∧ ∃ lt pv sv, TreeAt w' lt (cidOf id sd q) (csdOf id sd q) k ∧ NewB w.heap.size 56 (pubL (cidOf id sd q) (csdOf id sd q) k) w' pv ∧ NewB w.heap.size n (lsigOf id sd k q (pubL (cidOf id sd q) (csdOf id sd q) k)) w' sv ∧ w.heap.size ≤ lt ∧ Own w w' [(kb, keyR ss k l (.pointer (some ⟨tb, 0, none⟩)) q (.int .u32 1) (.int .i32 0) (.pointer (some ⟨lt, 0, none⟩)) pv sv, 98), (tb, fullT id sd k, 74)] := by
 have hdo : Hid (∀ w1 b2 b3 b5, Own w w1 [(b5, [.pointer (some ⟨kb, 51 + 6 * q, none⟩)], 102), (b3, [.int .i64 q], 3), (b2, [.pointer (some ⟨kb, 0, none⟩)], 51), (kb, keyR ss k l (.pointer (some ⟨tb, 0, none⟩)) q (.int .u32 0) (.int .i32 0) (.pointer none) (.slice none 0 0) (.slice none 0 0), 98), (tb, cs, 74)] → Calls Tryz.prog 67 #[.pointer (some ⟨kb, 51 + 6 * q, none⟩), .func (.func 84) #[] #[.pointer (some ⟨b2, 0, none⟩), .pointer (some ⟨b3, 0, none⟩), .pointer (some ⟨b5, 0, none⟩)]] w1 fun e w' => e = .returned (.tuple #[]) ∧ ∃ lt pv sv, TreeAt w' lt (cidOf id sd q) (csdOf id sd q) k ∧ NewB w.heap.size 56 (pubL (cidOf id sd q) (csdOf id sd q) k) w' pv ∧ NewB w.heap.size n (lsigOf id sd k q (pubL (cidOf id sd q) (csdOf id sd q) k)) w' sv ∧ w.heap.size ≤ lt ∧ Own w w' [(b5, [.pointer (some ⟨kb, 51 + 6 * q, none⟩)], 102), (b3, [.int .i64 q], 3), (b2, [.pointer (some ⟨kb, 0, none⟩)], 51), (kb, keyR ss k l (.pointer (some ⟨tb, 0, none⟩)) q (.int .u32 1) (.int .i32 0) (.pointer (some ⟨lt, 0, none⟩)) pv sv, 98), (tb, fullT id sd k, 74)]) := fun w1 b2 b3 b5 h => underO_any w w1 kb tb b2 b3 b5 q hq l id sd h16 h32 k hk ss hss cs hcs hn (H0.lt (.head _)) h
 clear h16 h32 hk hss hcs hn
 have hmf : ∀ (fn : Fn) (first cap : Array Value) (w : World), (Instr.makeFunc fn first cap).run Tryz.prog w = .ok (.func fn first cap) w := fun _ _ _ _ => rfl
 have hkb := H0.lt (.head _)
 have htb := H0.lt (.tail _ (.head _))
 have H := H0
 clear H0
 go_enter Tryz.func58, Tryz.ntmps58
 have z1 := tt
 go_wp2_with (first
  | (clear z1; refine st_new rfl (rn_box (cs := [.pointer (some ⟨kb, 0, none⟩)]) H rfl rfl rfl) ?_; clear H; intro b2 w1 hb2 H; have z2 := tt)
  | (clear z2; refine st_new rfl (rn_box (cs := [.int .i64 q]) H rfl rfl rfl) ?_; clear H; intro b3 w2 hb3 H; have z3 := tt))
 have HH := Hh H
 clear H
 have c2 : Hid (∀ w', Own w2 w' [] → w'.cell? ⟨b2, 0, none⟩ = some (.pointer (some ⟨kb, 0, none⟩))) := fun w' h => (HH.out.call0 h).cell (.tail _ (.head _)) 0
 have c3 : Hid (∀ w', Own w2 w' [] → w'.cell? ⟨b3, 0, none⟩ = some (.int .i64 q)) := fun w' h => (HH.out.call0 h).cell (.head _) 0
 refine region_grow 6 (by kernel_rfl) (by kernel_rfl) (by kernel_rfl) [.val (.pointer (some ⟨kb, 0, none⟩)), .val (.int .i64 q), .val (.pointer (some ⟨kb, 0, none⟩)), .val (.pointer (some ⟨kb, 51, none⟩)), .val (.pointer (some ⟨kb, 51 + 6 * q, none⟩)), .rel (CellN w2.heap.size 1 102)] rfl ?_
 have z3 := tt
 try go_frame
 repeat (first
  | (clear z3; refine sp_run (v := .pointer (some ⟨kb, 0, none⟩)) rfl (fun w' hw' _ => rn_cell rfl rfl rfl rfl (c2.out w' hw')) ?_; try go_frame; have z4 := tt)
  | (clear z4; refine sp_run (v := .int .i64 q) rfl (fun w' hw' _ => rn_cell rfl rfl rfl rfl (c3.out w' hw')) ?_; try go_frame; have z5 := tt)
  | (clear z5; refine sp_val (fun w' hw' hF => ?_) ⟨_, rfl, nB rfl⟩ ?_
     · go_big_quiet_step (fail)
       exact rfl
     try go_frame; have z6 := tt)
  | (clear z6; refine sp_val (fun w' hw' hF => ?_) ⟨_, rfl, nB rfl⟩ ?_
     · go_big_quiet_step (fail)
       exact rfl
     try go_frame; have z7 := tt)
  | (clear z7; refine sp_run (v := .pointer (some ⟨kb, 51 + 6 * q, none⟩)) rfl (fun w' hw' _ => rn_idxArrN rfl (n := 32) (e := 95) (sz := 6) (by kernel_rfl) (by kernel_rfl) rfl rfl (j := q) rfl hq rfl) ?_; try go_frame; have z8 := tt)
  | (clear z8; refine sp_rel CellN.mono rfl (fun w' hw' _ => cellN_alloc rfl (cs := [.pointer none]) (by kernel_rfl) (by simp) hw'.size) ?_; intro v5; try go_frame))
 refine sp_nil ?_
 intro w6 hw' hF
 obtain ⟨b5, c7, e7, q7, n7, r7⟩ := hF.2 _ rfl trivial
 subst e7
 obtain ⟨x7, rfl⟩ : ∃ x, c7 = [x] := by
  match c7, n7 with
  | [x], _ => exact ⟨x, rfl⟩
 have h22 := HH.out.lt (.head _)
 have h23 := HH.out.lt (.tail _ (.head _))
 have h24 := HH.out.size
 have H := (HH.out.call0 hw').adopt r7 (by simp; omega)
 clear hF hw' r7 c2 c3 HH n7
 simp only [List.drop_succ_cons, List.drop_zero]
 have z1 := tt
 go_wp2_with (first
  | (clear z1; refine st_stR rfl H rfl rfl rfl (by kernel_rfl) .head (Nat.zero_lt_one) rfl ?_; clear H; intro w7 H; have z2 := tt)
  | (clear z2; refine st_val rfl (rn_cell rfl rfl rfl rfl (H.cell (.head _) 0)) ?_; have z3 := tt)
  | (clear z3; go_at_call 67; refine (hdo.out _ _ _ _ H).mono ?_; rintro e w8 ⟨rfl, lt, pv, sv, g1, g2, g3, g4, H2⟩; clear H; have H := H2; clear H2; have G1 := Hh g1; have G2 := Hh g2; have G3 := Hh g3; have G4 := Hh g4; clear g1 g2 g3 g4; have z4 := tt)
  | (clear z4; refine st_val rfl (rn_cell rfl rfl rfl rfl (H.cell (.head _) 0)) ?_; have z5 := tt))
 go_ret
 exact ⟨rfl, lt, pv, sv, G1.out, G2.out, G3.out, G4.out, H.drop (L1 := [_, _, _]) (by simp; omega)⟩
end Go.Proofs.YtfihlmnbonnekaaGreat
