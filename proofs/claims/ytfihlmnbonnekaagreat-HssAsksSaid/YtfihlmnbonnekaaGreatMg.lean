/- hss: a key's signature, two levels. And what stands on it. No condition. -/
import Derived.Test.YtfihlmnbonnekaaGreatHPut

/-! hss: a key's signature, two levels. -/
namespace Go.Proofs.YtfihlmnbonnekaaGreat
open Go.RowKit
set_option maxHeartbeats 32000000
set_option linter.unusedVariables false
def hereR (w : World) (M : List Ent) : Prop := ∀ b cs T, (b, cs, T) ∈ M → w.heap[b]? = some (.cells (List.toArray cs) T (0, 0))
def LowM (xs ys : List Int) (pv sv : Value) (M : List Ent) : Prop := ∀ w, hereR w M → Old w pv xs ∧ Old w sv ys
theorem lowM_new {B m n : Nat} {xs ys : List Int} {w : World} {pv sv : Value} (h1 : NewB B m xs w pv) (h2 : NewB B n ys w sv) : ∃ M, LowM xs ys pv sv M ∧ hereR w M ∧ (M.map (·.1)).Nodup ∧ ∀ j ∈ M.map (·.1), B ≤ j ∧ ∃ cs : List Value, w.heap[j]? = some (.cells cs.toArray 5 (0, 0)) := by
 obtain ⟨p1, c1, rfl, ⟨g1, d1, cs1, a1, a2, a3, a4, a5, a6, a7⟩, _⟩ := h1
 obtain ⟨p2, c2, rfl, ⟨g2, d2, cs2, b1, b2, b3, b4, b5, b6, b7⟩, _⟩ := h2
 by_cases e : g1 = g2
 · subst e
   have e2 : some (Obj.cells cs1.toArray 5 (0, 0)) = some (Obj.cells cs2.toArray 5 (0, 0)) := a7.symm.trans b7
   refine ⟨[(g1, cs1, 5)], fun w' h => ⟨BufS.old (B := B) ⟨g1, d1, cs1, a1, a2, a3, a4, a5, a6, h _ _ _ (.head _)⟩, BufS.old (B := B) ⟨g1, d2, cs2, b1, b2, b3, b4, b5, b6, (h _ _ _ (.head _)).trans e2⟩⟩, fun b cs T hm => by simp at hm; obtain ⟨rfl, rfl, rfl⟩ := hm; exact a7, by simp, fun j hj => by simp at hj; subst hj; exact ⟨a6, _, a7⟩⟩
 · refine ⟨[(g1, cs1, 5), (g2, cs2, 5)], fun w' h => ⟨BufS.old (B := B) ⟨g1, d1, cs1, a1, a2, a3, a4, a5, a6, h _ _ _ (.head _)⟩, BufS.old (B := B) ⟨g2, d2, cs2, b1, b2, b3, b4, b5, b6, h _ _ _ (.tail _ (.head _))⟩⟩, fun b cs T hm => ?_, by simpa using e, fun j hj => ?_⟩
   · rcases List.mem_cons.1 hm with h | h
     · cases h; exact a7
     · cases List.mem_singleton.1 h; exact b7
   · simp at hj
     rcases hj with rfl | rfl
     · exact ⟨a6, _, a7⟩
     · exact ⟨b6, _, b7⟩
theorem Own.adoptL {w0 w : World} {L M : List Ent} (H : Own w0 w L) (hM : hereR w M) (hn : (M.map (·.1)).Nodup) (hd : ∀ j ∈ M.map (·.1), j ∉ L.map (·.1)) : Own w0 w (L ++ M) := by
 refine ⟨H.os, H.tape, H.output, H.size, fun k hk hkn => H.keep k hk (fun h => hkn (by rw [List.map_append]; exact List.mem_append_left _ h)), ?_, fun b cs T hm => ?_⟩
 · rw [List.map_append, List.nodup_append]
   exact ⟨H.nodup, hn, fun a ha b hb e => hd b hb (e ▸ ha)⟩
 · rcases List.mem_append.1 hm with h | h
   · exact H.here b cs T h
   · exact hM b cs T h
theorem Buf.callU {e : TypeId} {k : IntKind} {w0 w w' : World} {L Lr Lr' : List Ent} {v : Value} {xs : List Int} (E : Buf e k w0 w (L ++ Lr) v xs) (hu : Own w w' Lr') (hk : ∀ j ∈ Lr'.map (·.1), j ∈ Lr.map (·.1) ∨ w.heap.size ≤ j) (hk2 : ∀ j ∈ Lr.map (·.1), j ∈ Lr'.map (·.1)) : Buf e k w0 w' (L ++ Lr') v xs := by
 obtain ⟨Lv, h1, h2, h3⟩ := E
 refine ⟨Lv, h1, ?_, h3⟩
 have p1 : (Lv ++ (L ++ Lr)).Perm (Lr ++ (Lv ++ L)) := by rw [← List.append_assoc]; exact List.perm_append_comm
 have p2 : (Lr' ++ (Lv ++ L)).Perm (Lv ++ (L ++ Lr')) := by rw [← List.append_assoc Lv]; exact List.perm_append_comm
 exact (Own.call (h2.perm p1) ⟨hu, hk⟩ (fun j hj => Or.inl (hk2 j hj))).perm p2
theorem low_new (kb tb : Nat) (q : Nat) (hq : q < 32) (l : Int) (id sd : List Int) (h16 : id.length = 16) (h32 : sd.length = 32) (k : Nat) (hk : k = 1 ∨ k = 2 ∨ k = 4 ∨ k = 8) (ss : List Int) (hss : ss = id ++ sd) (cs : List Value) (hcs : IsTree id sd k cs) (w w1 : World) (X : List Ent) (H : Own w w1 (X ++ [(kb, keyR ss k l (.pointer (some ⟨tb, 0, none⟩)) q (.int .u32 0) (.int .i32 0) (.pointer none) (.slice none 0 0) (.slice none 0 0), 98), (tb, cs, 74)])) (hX : ∀ j ∈ X.map (·.1), w.heap.size ≤ j) :
 Calls Tryz.prog 58 #[.pointer (some ⟨kb, 0, none⟩), .int .i64 q] w1 fun e w2 => e = .returned (.pointer (some ⟨kb, 51 + 6 * q, none⟩)) ∧ ∃ lt pv sv M, True ∧ LowM (pubL (cidOf id sd q) (csdOf id sd q) k) (lsigOf id sd k q (pubL (cidOf id sd q) (csdOf id sd q) k)) pv sv M ∧ (∀ j ∈ ((kb, keyR ss k l (.pointer (some ⟨tb, 0, none⟩)) q (.int .u32 1) (.int .i32 0) (.pointer (some ⟨lt, 0, none⟩)) pv sv, 98) :: (tb, fullT id sd k, 74) :: (M ++ [(lt, fullT (cidOf id sd q) (csdOf id sd q) k, 74)])).map (·.1), j ∈ ([(kb, keyR ss k l (.pointer (some ⟨tb, 0, none⟩)) q (.int .u32 0) (.int .i32 0) (.pointer none) (.slice none 0 0) (.slice none 0 0), 98), (tb, cs, 74)] : List Ent).map (·.1) ∨ w1.heap.size ≤ j) ∧ (∀ j ∈ ([(kb, keyR ss k l (.pointer (some ⟨tb, 0, none⟩)) q (.int .u32 0) (.int .i32 0) (.pointer none) (.slice none 0 0) (.slice none 0 0), 98), (tb, cs, 74)] : List Ent).map (·.1), j ∈ ((kb, keyR ss k l (.pointer (some ⟨tb, 0, none⟩)) q (.int .u32 1) (.int .i32 0) (.pointer (some ⟨lt, 0, none⟩)) pv sv, 98) :: (tb, fullT id sd k, 74) :: (M ++ [(lt, fullT (cidOf id sd q) (csdOf id sd q) k, 74)])).map (·.1)) ∧ Own w1 w2 ((kb, keyR ss k l (.pointer (some ⟨tb, 0, none⟩)) q (.int .u32 1) (.int .i32 0) (.pointer (some ⟨lt, 0, none⟩)) pv sv, 98) :: (tb, fullT id sd k, 74) :: (M ++ [(lt, fullT (cidOf id sd q) (csdOf id sd q) k, 74)])) := by
 have H1 := (H.drop hX).self
 refine (under_new w1 kb tb q hq l id sd h16 h32 k hk ss hss cs hcs rfl H1).mono ?_
 rintro e w2 ⟨h1, lt, pv, sv, g1, g2, g3, g4, h2⟩
 obtain ⟨M, m1, m2, m3, m4⟩ := lowM_new g2 g3
 have hkb := H1.lt (.head _)
 have htb := H1.lt (.tail _ (.head _))
 have hlt : lt ∉ M.map (·.1) := fun hm => by
  obtain ⟨_, cs', e⟩ := m4 lt hm
  have g1' : w2.heap[lt]? = _ := g1
  rw [e] at g1'
  injection g1' with g1'
  injection g1' with _ g1'
  exact absurd g1' (by decide)
 refine ⟨h1, lt, pv, sv, M, trivial, m1, fun j hj => ?_, fun j hj => ?_, Own.adoptL (L := [_, _]) (M := M ++ [(lt, fullT (cidOf id sd q) (csdOf id sd q) k, 74)]) h2 (fun b cs' T' hm => ?_) ?_ fun j hj => ?_⟩
 · simp only [List.map_cons, List.map_append, List.map_nil, List.mem_cons, List.mem_append, List.not_mem_nil, or_false] at hj ⊢
   rcases hj with rfl | rfl | hj | rfl
   · exact Or.inl (Or.inl rfl)
   · exact Or.inl (Or.inr rfl)
   · exact Or.inr (m4 j hj).1
   · exact Or.inr g4
 · simp only [List.map_cons, List.map_append, List.map_nil, List.mem_cons, List.mem_append, List.not_mem_nil, or_false] at hj ⊢
   rcases hj with rfl | rfl
   · exact Or.inl rfl
   · exact Or.inr (Or.inl rfl)
 · rcases List.mem_append.1 hm with h | h
   · exact m2 _ _ _ h
   · cases List.mem_singleton.1 h; exact g1
 · rw [List.map_append, List.nodup_append]
   refine ⟨m3, by simp, fun a ha b hb e => ?_⟩
   simp at hb
   exact hlt (by rw [← hb, ← e]; exact ha)
 · simp only [List.map_append, List.mem_append, List.map_cons, List.map_nil, List.mem_cons, List.not_mem_nil, or_false] at hj ⊢
   rcases hj with hj | rfl
   · have := (m4 j hj).1; omega
   · omega
end Go.Proofs.YtfihlmnbonnekaaGreat

/-! hss: Key.Sign, two levels. -/
namespace Go.Proofs.YtfihlmnbonnekaaGreat
open Go.RowKit
set_option maxHeartbeats 32000000
set_option linter.unusedVariables false
theorem old_out {w w' : World} {mv : Value} {msg : List Int} {L L0 : List Ent} (hO : Old w mv msg) (hne : ∀ j, blk mv = some j → j ∉ L0.map (·.1)) (h : Own w w' L) (hL : ∀ j ∈ L.map (·.1), j ∈ L0.map (·.1) ∨ w.heap.size ≤ j) : Old w' mv msg :=
 ⟨SlAt.own hO.1 h (fun j hj hm => (hL j hm).elim (hne j hj) (fun h1 => by have := hO.2 j hj; omega)), fun j hj => Nat.lt_of_lt_of_le (hO.2 j hj) h.size⟩
set_option maxRecDepth 100000 in
theorem hsign_two (Φ : Nat → Value → Value → List Ent → Prop) (w : World) (kb tb : Nat) (q r N : Nat) (hq : q < 32) (hr : r < 32) (hN : N = 32 * q + r) (l : Int) (id sd : List Int) (h16 : id.length = 16) (h32 : sd.length = 32) (k : Nat) (hk : k = 1 ∨ k = 2 ∨ k = 4 ∨ k = 8) (ss : List Int) (hss : ss = id ++ sd) (L0 : List Ent) (K0 : List Value) (hK0 : (kb, K0, 98) ∈ L0) (hK2 : K0[49]? = some (.int .i64 2)) (H0 : Own w w L0)
 (pm : Option Addr) (n cm : Nat) (msg : List Int) (hO : Old w (.slice pm n cm) msg) (hmb : IsBytes msg) (hml : msg.length ≤ 90000) (hne : ∀ j, blk (.slice pm n cm) = some j → j ∉ L0.map (·.1))
 (hun : ∀ w1 X, Own w w1 (X ++ L0) → (∀ j ∈ X.map (·.1), w.heap.size ≤ j) → Calls Tryz.prog 58 #[.pointer (some ⟨kb, 0, none⟩), .int .i64 q] w1 fun e w2 => e = .returned (.pointer (some ⟨kb, 51 + 6 * q, none⟩)) ∧ ∃ lt pv sv M, Φ lt pv sv M ∧ LowM (pubL (cidOf id sd q) (csdOf id sd q) k) (lsigOf id sd k q (pubL (cidOf id sd q) (csdOf id sd q) k)) pv sv M ∧ (∀ j ∈ ((kb, keyR ss k l (.pointer (some ⟨tb, 0, none⟩)) q (.int .u32 1) (.int .i32 0) (.pointer (some ⟨lt, 0, none⟩)) pv sv, 98) :: (tb, fullT id sd k, 74) :: (M ++ [(lt, fullT (cidOf id sd q) (csdOf id sd q) k, 74)])).map (·.1), j ∈ (L0 : List Ent).map (·.1) ∨ w1.heap.size ≤ j) ∧ (∀ j ∈ (L0 : List Ent).map (·.1), j ∈ ((kb, keyR ss k l (.pointer (some ⟨tb, 0, none⟩)) q (.int .u32 1) (.int .i32 0) (.pointer (some ⟨lt, 0, none⟩)) pv sv, 98) :: (tb, fullT id sd k, 74) :: (M ++ [(lt, fullT (cidOf id sd q) (csdOf id sd q) k, 74)])).map (·.1)) ∧ Own w1 w2 ((kb, keyR ss k l (.pointer (some ⟨tb, 0, none⟩)) q (.int .u32 1) (.int .i32 0) (.pointer (some ⟨lt, 0, none⟩)) pv sv, 98) :: (tb, fullT id sd k, 74) :: (M ++ [(lt, fullT (cidOf id sd q) (csdOf id sd q) k, 74)]))) :
 Calls Tryz.prog 26 #[.pointer (some ⟨kb, 0, none⟩), .int .i64 N, (.slice pm n cm)] w fun e w' => ∃ v, e = .returned (.tuple #[v, .int .i64 0]) ∧ BufR w.heap.size (numB 1 4 ++ (lsigOf id sd k q (pubL (cidOf id sd q) (csdOf id sd q) k)) ++ (pubL (cidOf id sd q) (csdOf id sd q) k) ++ (lsigOf (cidOf id sd q) (csdOf id sd q) k r msg)) w' v ∧ ∃ lt pv sv M, Φ lt pv sv M ∧ LowM (pubL (cidOf id sd q) (csdOf id sd q) k) (lsigOf id sd k q (pubL (cidOf id sd q) (csdOf id sd q) k)) pv sv M ∧ (∀ j ∈ ((kb, keyR ss k l (.pointer (some ⟨tb, 0, none⟩)) q (.int .u32 1) (.int .i32 0) (.pointer (some ⟨lt, 0, none⟩)) pv sv, 98) :: (tb, fullT id sd k, 74) :: (M ++ [(lt, fullT (cidOf id sd q) (csdOf id sd q) k, 74)])).map (·.1), j ∈ L0.map (·.1) ∨ w.heap.size ≤ j) ∧ (∀ j ∈ L0.map (·.1), j ∈ ((kb, keyR ss k l (.pointer (some ⟨tb, 0, none⟩)) q (.int .u32 1) (.int .i32 0) (.pointer (some ⟨lt, 0, none⟩)) pv sv, 98) :: (tb, fullT id sd k, 74) :: (M ++ [(lt, fullT (cidOf id sd q) (csdOf id sd q) k, 74)])).map (·.1)) ∧ Own w w' ((kb, keyR ss k l (.pointer (some ⟨tb, 0, none⟩)) q (.int .u32 1) (.int .i32 0) (.pointer (some ⟨lt, 0, none⟩)) pv sv, 98) :: (tb, fullT id sd k, 74) :: (M ++ [(lt, fullT (cidOf id sd q) (csdOf id sd q) k, 74)])) := by
 have hmf : ∀ (fn : Fn) (first cap : Array Value) (w : World), (Instr.makeFunc fn first cap).run Tryz.prog w = .ok (.func fn first cap) w := fun _ _ _ _ => rfl
 have hm2 := Hh many_2
 have hpl : Hid ((pubL (cidOf id sd q) (csdOf id sd q) k).length = 56) := length_pubL (length_cidOf id sd q) _ k
 have hsl : Hid ((lsigOf id sd k q (pubL (cidOf id sd q) (csdOf id sd q) k)).length ≤ 10000) := by show _ ≤ _; rw [length_lsigOf]; rcases hk with rfl | rfl | rfl | rfl <;> exact nB (by kernel_rfl)
 have hput := Hh (fun (w2 : World) (M : List Ent) (wb mb lt : Nat) (v : Value) (xs : List Int) (h1 : Old w2 (.slice pm n cm) msg) (h2 : ∀ k, blk (.slice pm n cm) = some k → k ≠ lt) => put_any w w2 M wb mb lt v (.slice pm n cm) xs msg (cidOf id sd q) (csdOf id sd q) (length_cidOf id sd q) (length_csdOf id sd q) k hk (fullT (cidOf id sd q) (csdOf id sd q) k) (Or.inr rfl) r hr h1 hmb hml h2)
 have hlen4 : Hid ((numB 1 4).length = 4) := length_numB _ _
 obtain ⟨FT, hFT⟩ : ∃ x, x = fullT id sd k := ⟨_, rfl⟩
 obtain ⟨FL, hFL⟩ : ∃ x, x = fullT (cidOf id sd q) (csdOf id sd q) k := ⟨_, rfl⟩
 obtain ⟨PB, hPB⟩ : ∃ x, x = (pubL (cidOf id sd q) (csdOf id sd q) k) := ⟨_, rfl⟩
 rw [← hPB] at hpl hsl hun ⊢
 obtain ⟨SG, hSG⟩ : ∃ x, x = lsigOf id sd k q PB := ⟨_, rfl⟩
 obtain ⟨SR, hSR⟩ : ∃ x, x = (lsigOf (cidOf id sd q) (csdOf id sd q) k r msg) := ⟨_, rfl⟩
 rw [← hSG] at hsl hun ⊢
 rw [← hSR] at hput ⊢
 rw [← hFL] at hput hun ⊢
 rw [← hFT] at hun ⊢
 have hun' := Hh hun
 have hN0 : ¬ (N : Int) < 0 := by omega
 have hN1 : ¬ (1024 : Int) ≤ N := by omega
 have hquo : (N : Int).tdiv 32 = q := by rw [Int.tdiv_eq_ediv_of_nonneg (by omega)]; omega
 have hrem : (N : Int).tmod 32 = r := by rw [Int.tmod_eq_emod_of_nonneg (by omega)]; omega
 have hat := Hh (fun (h48 : ss.length = 48) (x y tr pb sg : Value) => keyR_at (k := (k : Int)) (l := l) (t := (.pointer (some ⟨tb, 0, none⟩))) (q := q) (x := x) (y := y) (tr := tr) (pb := pb) (sg := sg) h48)
 have h48 : Hid (ss.length = 48) := by show _ = _; rw [hss, List.length_append, h16, h32]
 have hO' := Hh hO
 have hne' := Hh hne
 have H := H0
 clear H0 hun hFT hFL hPB hSG hSR hN h16 h32 hk hss hO hne
 go_enter Tryz.func26, Tryz.ntmps26
 have z1 := tt
 go_wp2_with (first
  | (clear z1; refine st_new rfl (rn_box (cs := [(.slice pm n cm)]) H rfl rfl rfl) ?_; clear H; intro mb w1 hmw H; have z2 := tt)
  | (clear z2; refine st_val rfl (rn_cell rfl rfl rfl rfl ((H.cell (.tail _ hK0) 49).trans hK2)) ?_; have z3 := tt)
  | (clear z3; go_at_call 25; refine (hm2.out _).mono ?_; rintro e w2 ⟨rfl, h2⟩; have H2 := H.call0 h2; clear H h2; have H := H2; clear H2; have z4 := tt)
  | (clear z4; refine st_new rfl (rn_alloc H rfl info_writer) ?_; clear H; intro wb w3 hwb H; have B : Buf 5 .u8 w w3 ((wb, [.slice none 0 0], 79) :: ((mb, [(.slice pm n cm)], 27) :: L0)) (.slice none 0 0) [] := Buf.nil H; clear H; have z5 := tt)
  | (clear z5; refine st_val rfl (rn_cell rfl rfl rfl rfl ((B.own0.cell (.tail _ (.tail _ hK0)) 49).trans hK2)) ?_; have z6 := tt)
  | (clear z6; go_at_call 37; refine (num_any _ _ _ _ _ _ B 1 4 (by omega) (by omega) (by simp)).mono ?_; rintro e w4 ⟨rfl, v4, B2⟩; clear B; have B := B2; clear B2; have z7 := tt)
  | (clear z7; refine st_val rfl (rn_cell rfl rfl rfl rfl ((B.own0.cell (.tail _ (.tail _ hK0)) 49).trans hK2)) ?_; have z8 := tt)
  | (clear z8; go_at_call 58; refine (hun'.out _ [_, _] B.own0 (by simp; omega)).mono ?_; rintro e w5 ⟨rfl, lt, pv, sv, M, m0, m1, m2, m3, h5⟩; have hs4 := B.own0.size; have B2 := Buf.callU (L := [_, _]) B h5 m2 m3; clear B; have B := B2; clear B2; have P5 := Hh (m1 w5 (fun b cs T hm => h5.here _ _ _ (.tail _ (.tail _ (List.mem_append_left _ hm))))); have M1 := Hh m1; have M0 := Hh m0; have M3 := Hh m3; have M2 : Hid (∀ j ∈ ((kb, keyR ss k l (.pointer (some ⟨tb, 0, none⟩)) q (.int .u32 1) (.int .i32 0) (.pointer (some ⟨lt, 0, none⟩)) pv sv, 98) :: (tb, FT, 74) :: (M ++ [(lt, FL, 74)])).map (·.1), j ∈ L0.map (·.1) ∨ w.heap.size ≤ j) := fun j hj => (m2 j hj).imp (fun h => h) (fun h => Nat.le_trans hs4 h); have OM : Hid (∀ w' v, Own w w' ((wb, [v], 79) :: (mb, [(.slice pm n cm)], 27) :: ((kb, keyR ss k l (.pointer (some ⟨tb, 0, none⟩)) q (.int .u32 1) (.int .i32 0) (.pointer (some ⟨lt, 0, none⟩)) pv sv, 98) :: (tb, FT, 74) :: (M ++ [(lt, FL, 74)]))) → Old w' (.slice pm n cm) msg) := (fun w' v h => old_out hO'.out hne'.out h (fun j hm => (List.mem_cons.1 hm).elim (fun e => Or.inr (by rw [e]; exact hwb)) (fun hm => (List.mem_cons.1 hm).elim (fun e => Or.inr (by rw [e]; exact hmw)) (fun hm => M2.out j hm)))); have NL : Hid (∀ j, blk (.slice pm n cm) = some j → j ≠ lt) := (fun j hj e => (M2.out j (by subst e; simp)).elim (hne'.out j hj) (fun h1 => by have := hO'.out.2 j hj; omega)); clear m0 m1 m2 m3 h5 hs4; have z9 := tt)
  | (clear z9; refine st_val rfl (rn_cell rfl rfl rfl rfl ((B.own0.cell (.tail _ (.tail _ (.head _))) _).trans (hat.out h48.out _ _ _ _ _ 5))) ?_; have z10 := tt)
  | (clear z10; go_at_call 39; refine (raw_any _ _ _ _ _ _ B _ SG P5.out.2.1 (by rw [List.nil_append, hlen4.out]; have := hsl.out; omega)).mono ?_; rintro e w6 ⟨rfl, v6, B2⟩; clear B P5; have B := B2; clear B2; have P6 := Hh (M1.out w6 (fun b cs T hm => B.own0.here _ _ _ (.tail _ (.tail _ (.tail _ (.tail _ (List.mem_append_left _ hm))))))); have z11 := tt)
  | (clear z11; refine st_val rfl (rn_cell rfl rfl rfl rfl ((B.own0.cell (.tail _ (.tail _ (.head _))) _).trans (hat.out h48.out _ _ _ _ _ 4))) ?_; have z12 := tt)
  | (clear z12; go_at_call 39; refine (raw_any _ _ _ _ _ _ B _ PB P6.out.1.1 (by rw [List.nil_append, List.length_append, hlen4.out, hpl.out]; have := hsl.out; omega)).mono ?_; rintro e w7 ⟨rfl, v7, B2⟩; clear B P6; have B := B2; clear B2; have z13 := tt)
  | (clear z13; refine st_val rfl (rn_cell rfl rfl rfl rfl ((B.own0.cell (.tail _ (.tail _ (.head _))) _).trans (hat.out h48.out _ _ _ _ _ 3))) ?_; have z14 := tt)
  | (clear z14; refine st_callC (P := Tryz.prog) (R := fun v w2 => BufR w.heap.size ((([] ++ numB 1 4) ++ SG ++ PB) ++ SR) w2 v ∧ Own w w2 ((kb, keyR ss k l (.pointer (some ⟨tb, 0, none⟩)) q (.int .u32 1) (.int .i32 0) (.pointer (some ⟨lt, 0, none⟩)) pv sv, 98) :: (tb, FT, 74) :: (M ++ [(lt, FL, 74)]))) (f := 57) (cap := #[.pointer (some ⟨mb, 0, none⟩), .pointer (some ⟨wb, 0, none⟩)]) (args := #[(.pointer (some ⟨lt, 0, none⟩)), .int .i64 r, .pointer (some ⟨mb, 0, none⟩), .pointer (some ⟨wb, 0, none⟩)]) rfl rfl rfl (by simp [Act.eval]) Tryz.func57 (by kernel_rfl) (by kernel_rfl) ((hput.out w7 ((kb, _, _) :: (tb, _, _) :: M) wb mb lt v7 _ (OM.out _ _ B.own0) NL.out (by rw [List.nil_append, List.length_append, List.length_append, hlen4.out, hpl.out]; have := hsl.out; omega) (by omega) (by omega) B).mono fun e w8 h => h) ?_; intro v67 w8 hr; have R8 := Hh hr.1; have H8 := Hh hr.2; clear hr B; have z15 := tt))
 go_ret2
 exact ⟨_, rfl, R8.out, lt, pv, sv, M, M0.out, M1.out, M2.out, M3.out, H8.out⟩
end Go.Proofs.YtfihlmnbonnekaaGreat

/-! hss: Key.Public. -/
namespace Go.Proofs.YtfihlmnbonnekaaGreat
open Go.RowKit
set_option maxHeartbeats 32000000
set_option linter.unusedVariables false
theorem Own.sameL {w w' : World} {L : List Ent} (h : Own w w' L) (h0 : Own w w L) : Own w w' [] := by
 refine ⟨h.os, h.tape, h.output, h.size, fun k hk _ => ?_, List.nodup_nil, fun _ _ _ hm => by cases hm⟩
 by_cases e : k ∈ L.map (·.1)
 · obtain ⟨⟨b, cs, T⟩, hm, rfl⟩ := List.mem_map.1 e
   exact (h.here b cs T hm).trans (h0.here b cs T hm).symm
 · exact h.keep k hk e
set_option maxRecDepth 100000 in
theorem hpub_1 (w : World) (kb tb : Nat) (id sd : List Int) (h16 : id.length = 16) (h32 : sd.length = 32) (k : Nat) (hk : k = 1 ∨ k = 2 ∨ k = 4 ∨ k = 8) (L0 : List Ent) (K0 : List Value) (hK0 : (kb, K0, 98) ∈ L0) (hK1 : K0[49]? = some (.int .i64 1)) (hK2 : K0[50]? = some (.pointer (some ⟨tb, 0, none⟩))) (hT : (tb, fullT id sd k, 74) ∈ L0) (H0 : Own w w L0) :
 Calls Tryz.prog 27 #[.pointer (some ⟨kb, 0, none⟩)] w fun e w' => ∃ v, e = .returned v ∧ BufR w.heap.size (numB 1 4 ++ pubL id sd k) w' v ∧ Own w w' [] := by
 have hpu := Hh (fun w' (h : TreeAt w' tb id sd k) => lpubA_any w' tb id sd h16 h32 k hk h)
 have hta : Hid (∀ w' v wb, Own w w' ((wb, [v], 79) :: L0) → TreeAt w' tb id sd k) := fun w' v wb h => h.here _ _ _ (.tail _ hT)
 have hpl : Hid ((pubL id sd k).length = 56) := length_pubL h16 sd k
 have hl4 : Hid ((numB 1 4).length = 4) := length_numB _ _
 obtain ⟨PL, hPL⟩ : ∃ x, x = pubL id sd k := ⟨_, rfl⟩
 rw [← hPL] at hpu hpl ⊢
 have H := H0
 have H0' := Hh H0
 clear H0 h16 h32 hk hPL
 go_enter Tryz.func27, Tryz.ntmps27
 have z1 := tt
 go_wp2_with (first
  | (clear z1; refine st_new rfl (rn_alloc H rfl info_writer) ?_; clear H; intro wb w3 hwb H; have B : Buf 5 .u8 w w3 ((wb, [.slice none 0 0], 79) :: L0) (.slice none 0 0) [] := Buf.nil H; clear H; have z5 := tt)
  | (clear z5; refine st_val rfl (rn_cell rfl rfl rfl rfl ((B.own0.cell (.tail _ hK0) 49).trans hK1)) ?_; have z6 := tt)
  | (clear z6; go_at_call 37; refine (num_any _ _ _ _ _ _ B 1 4 (by omega) (by omega) (by simp)).mono ?_; rintro e w4 ⟨rfl, v4, B2⟩; clear B; have B := B2; clear B2; have z7 := tt)
  | (clear z7; refine st_val rfl (rn_cell rfl rfl rfl rfl ((B.own0.cell (.tail _ hK0) 50).trans hK2)) ?_; have z8 := tt)
  | (clear z8; go_at_call 12; refine (hpu.out _ (hta.out _ _ _ B.own0)).mono ?_; rintro e w5 ⟨g, c, rfl, _, _, _, h1, h2⟩; have P5 := Hh h1.old; have B2 := B.call0 h2; clear B h1 h2; have B := B2; clear B2; have z9 := tt)
  | (clear z9; go_at_call 39; refine (raw_any _ _ _ _ _ _ B _ PL P5.out.1 (by rw [List.nil_append, hl4.out, hpl.out]; omega)).mono ?_; rintro e w6 ⟨rfl, v6, B2⟩; clear B P5; have B := B2; clear B2; have z10 := tt)
  | (clear z10; go_at_call 40; refine (bytesB_any _ wb v6 _ (B.own0.sub1 (.head _)) B.bytesAt B.lt (by rw [List.nil_append, List.length_append, hl4.out, hpl.out]; omega)).mono ?_; rintro e w7 ⟨r, rfl, hr⟩; have R7 := Hh hr; have hw6 := B.own0.size; have H := B.own0.call0 hr.own0; clear B hr))
 go_ret
 exact ⟨_, rfl, ⟨_, hw6, R7.out⟩, (Own.drop (L1 := [_]) H (by simpa using hwb)).sameL H0'.out⟩
set_option maxRecDepth 100000 in
theorem hpub_2 (w : World) (kb tb : Nat) (id sd : List Int) (h16 : id.length = 16) (h32 : sd.length = 32) (k : Nat) (hk : k = 1 ∨ k = 2 ∨ k = 4 ∨ k = 8) (L0 : List Ent) (K0 : List Value) (hK0 : (kb, K0, 98) ∈ L0) (hK1 : K0[49]? = some (.int .i64 2)) (hK2 : K0[50]? = some (.pointer (some ⟨tb, 0, none⟩))) (hT : (tb, fullT id sd k, 74) ∈ L0) (H0 : Own w w L0) :
 Calls Tryz.prog 27 #[.pointer (some ⟨kb, 0, none⟩)] w fun e w' => ∃ v, e = .returned v ∧ BufR w.heap.size (numB 2 4 ++ pubL id sd k) w' v ∧ Own w w' [] := by
 have hpu := Hh (fun w' (h : TreeAt w' tb id sd k) => lpubA_any w' tb id sd h16 h32 k hk h)
 have hta : Hid (∀ w' v wb, Own w w' ((wb, [v], 79) :: L0) → TreeAt w' tb id sd k) := fun w' v wb h => h.here _ _ _ (.tail _ hT)
 have hpl : Hid ((pubL id sd k).length = 56) := length_pubL h16 sd k
 have hl4 : Hid ((numB 2 4).length = 4) := length_numB _ _
 obtain ⟨PL, hPL⟩ : ∃ x, x = pubL id sd k := ⟨_, rfl⟩
 rw [← hPL] at hpu hpl ⊢
 have H := H0
 have H0' := Hh H0
 clear H0 h16 h32 hk hPL
 go_enter Tryz.func27, Tryz.ntmps27
 have z1 := tt
 go_wp2_with (first
  | (clear z1; refine st_new rfl (rn_alloc H rfl info_writer) ?_; clear H; intro wb w3 hwb H; have B : Buf 5 .u8 w w3 ((wb, [.slice none 0 0], 79) :: L0) (.slice none 0 0) [] := Buf.nil H; clear H; have z5 := tt)
  | (clear z5; refine st_val rfl (rn_cell rfl rfl rfl rfl ((B.own0.cell (.tail _ hK0) 49).trans hK1)) ?_; have z6 := tt)
  | (clear z6; go_at_call 37; refine (num_any _ _ _ _ _ _ B 2 4 (by omega) (by omega) (by simp)).mono ?_; rintro e w4 ⟨rfl, v4, B2⟩; clear B; have B := B2; clear B2; have z7 := tt)
  | (clear z7; refine st_val rfl (rn_cell rfl rfl rfl rfl ((B.own0.cell (.tail _ hK0) 50).trans hK2)) ?_; have z8 := tt)
  | (clear z8; go_at_call 12; refine (hpu.out _ (hta.out _ _ _ B.own0)).mono ?_; rintro e w5 ⟨g, c, rfl, _, _, _, h1, h2⟩; have P5 := Hh h1.old; have B2 := B.call0 h2; clear B h1 h2; have B := B2; clear B2; have z9 := tt)
  | (clear z9; go_at_call 39; refine (raw_any _ _ _ _ _ _ B _ PL P5.out.1 (by rw [List.nil_append, hl4.out, hpl.out]; omega)).mono ?_; rintro e w6 ⟨rfl, v6, B2⟩; clear B P5; have B := B2; clear B2; have z10 := tt)
  | (clear z10; go_at_call 40; refine (bytesB_any _ wb v6 _ (B.own0.sub1 (.head _)) B.bytesAt B.lt (by rw [List.nil_append, List.length_append, hl4.out, hpl.out]; omega)).mono ?_; rintro e w7 ⟨r, rfl, hr⟩; have R7 := Hh hr; have hw6 := B.own0.size; have H := B.own0.call0 hr.own0; clear B hr))
 go_ret
 exact ⟨_, rfl, ⟨_, hw6, R7.out⟩, (Own.drop (L1 := [_]) H (by simpa using hwb)).sameL H0'.out⟩
end Go.Proofs.YtfihlmnbonnekaaGreat

/-! hss: a key's own signature holds (plain). -/
namespace Go.Proofs.YtfihlmnbonnekaaGreat
open Go.RowKit
set_option maxHeartbeats 32000000
set_option linter.unusedVariables false
theorem num4_small {q : Nat} (hq : q < 32) (xs : List Int) : num4V (numB q 4 ++ xs) false = q := by
 unfold num4V
 rw [if_neg (by simp [length_numB]), beN_small q hq]
def sgL2 (id sd : List Int) (k q r : Nat) (msg : List Int) : List Int := numB 1 4 ++ lsigOf id sd k q (pubL (cidOf id sd q) (csdOf id sd q) k) ++ pubL (cidOf id sd q) (csdOf id sd q) k ++ lsigOf (cidOf id sd q) (csdOf id sd q) k r msg
theorem length_sgL2 (id sd : List Int) (k q r : Nat) (msg : List Int) : (sgL2 id sd k q r msg).length = 4 + sizeOfL k + 56 + sizeOfL k := by
 unfold sgL2
 rw [List.length_append, List.length_append, List.length_append, length_numB, length_lsigOf, length_lsigOf, length_pubL (length_cidOf id sd q)]
theorem isBytes_sgL2 (id sd : List Int) (k q r : Nat) (msg : List Int) : IsBytes (sgL2 id sd k q r msg) :=
 isBytes_app (isBytes_app (isBytes_app (isBytes_numB _ _) (isBytes_lsigOf _ _ _ _ _)) (isBytes_pubL (isBytes_cidOf id sd q) _ _)) (isBytes_lsigOf _ _ _ _ _)
theorem hver_self2 {id : List Int} (h16 : id.length = 16) (sd : List Int) {k : Nat} (hk : k = 1 ∨ k = 2 ∨ k = 4 ∨ k = 8) {q r : Nat} (hq : q < 32) (hr : r < 32) (msg : List Int) : hverL (numB 2 4 ++ pubL id sd k) msg (sgL2 id sd k q r msg) = 0 := by
 have c16 := length_cidOf id sd q
 have hpl := length_pubL h16 sd k
 have hcl := length_pubL c16 (csdOf id sd q) k
 have hPd : (numB 2 4 ++ pubL id sd k).drop 4 = pubL id sd k := List.drop_left' (length_numB _ _)
 have hPl : (numB 2 4 ++ pubL id sd k).length = 60 := by rw [List.length_append, length_numB, hpl]
 have hP2 : num4V (numB 2 4 ++ pubL id sd k) false = 2 := num4_small (q := 2) (by decide) _
 have hS : sgL2 id sd k q r msg = numB 1 4 ++ (lsigOf id sd k q (pubL (cidOf id sd q) (csdOf id sd q) k) ++ (pubL (cidOf id sd q) (csdOf id sd q) k ++ lsigOf (cidOf id sd q) (csdOf id sd q) k r msg)) := by unfold sgL2; simp only [List.append_assoc]
 have hSl := length_sgL2 id sd k q r msg
 have hS1 : num4V (sgL2 id sd k q r msg) false = 1 := by rw [hS]; exact num4_small (q := 1) (by decide) _
 have hSd : (sgL2 id sd k q r msg).drop 4 = lsigOf id sd k q (pubL (cidOf id sd q) (csdOf id sd q) k) ++ (pubL (cidOf id sd q) (csdOf id sd q) k ++ lsigOf (cidOf id sd q) (csdOf id sd q) k r msg) := by rw [hS, List.drop_left' (length_numB _ _)]
 have hl1 := length_lsigOf id sd k q (pubL (cidOf id sd q) (csdOf id sd q) k)
 have hl2 := length_lsigOf (cidOf id sd q) (csdOf id sd q) k r msg
 have hSm : ((sgL2 id sd k q r msg).drop 4).drop (sizeOfL k) = pubL (cidOf id sd q) (csdOf id sd q) k ++ lsigOf (cidOf id sd q) (csdOf id sd q) k r msg := by rw [hSd, List.drop_left' hl1]
 have hSt : ((sgL2 id sd k q r msg).drop 4).take (sizeOfL k) = lsigOf id sd k q (pubL (cidOf id sd q) (csdOf id sd q) k) := by rw [hSd, List.take_left' hl1]
 have hw := width_pubL h16 sd hk
 have hwc := width_pubL c16 (csdOf id sd q) hk
 unfold hverL
 rw [hPd, hw, hSm, hSt, List.take_left' hcl, List.drop_left' hcl, hwc, ver_sig h16 sd hk hq, ver_sig c16 (csdOf id sd q) hk hr, hP2, hS1, hPl]
 rw [if_pos ⟨rfl, Or.inr rfl, by omega⟩, if_pos ⟨by omega, by decide⟩, if_neg (by decide), if_pos ⟨by rw [List.length_drop]; omega, by omega, rfl⟩]
end Go.Proofs.YtfihlmnbonnekaaGreat

/-! hss: a key's life, two levels: signed with first, and again. -/
namespace Go.Proofs.YtfihlmnbonnekaaGreat
open Go.RowKit
set_option maxHeartbeats 32000000
set_option linter.unusedVariables false
def KeyMade (id sd : List Int) (k q kb tb : Nat) (L0 : List Ent) : Prop := ∃ (ss : List Int) (lt : Nat) (pv sv : Value) (M : List Ent), ss = id ++ sd ∧ LowM (pubL (cidOf id sd q) (csdOf id sd q) k) (lsigOf id sd k q (pubL (cidOf id sd q) (csdOf id sd q) k)) pv sv M ∧ L0 = (kb, keyR ss k 2 (.pointer (some ⟨tb, 0, none⟩)) q (.int .u32 1) (.int .i32 0) (.pointer (some ⟨lt, 0, none⟩)) pv sv, 98) :: (tb, fullT id sd k, 74) :: (M ++ [(lt, fullT (cidOf id sd q) (csdOf id sd q) k, 74)])
theorem bufR_slice {B n : Nat} {xs : List Int} {w : World} {v : Value} (h : BufR B xs w v) (hn : xs.length = n) : ∃ p c, v = .slice p n c := by
 obtain ⟨wb, _, h2⟩ := h
 obtain ⟨p, c, e⟩ := h2.slice
 exact ⟨p, c, by rw [e, hn]⟩
theorem km_first (kb tb : Nat) (q r N m : Nat) (hq : q < 32) (hr : r < 32) (hN : N = 32 * q + r) (id sd : List Int) (h16 : id.length = 16) (h32 : sd.length = 32) (k : Nat) (hk : k = 1 ∨ k = 2 ∨ k = 4 ∨ k = 8) (ss : List Int) (hss : ss = id ++ sd) (w : World) (cs : List Value) (hcs : IsTree id sd k cs) (H0 : Own w w [(kb, keyR ss k 2 (.pointer (some ⟨tb, 0, none⟩)) q (.int .u32 0) (.int .i32 0) (.pointer none) (.slice none 0 0) (.slice none 0 0), 98), (tb, cs, 74)])
 (pm : Option Addr) (n cm : Nat) (msg : List Int) (hO : Old w (.slice pm n cm) msg) (hmb : IsBytes msg) (hml : msg.length ≤ 90000) (hne : ∀ j, blk (.slice pm n cm) = some j → j ≠ kb ∧ j ≠ tb) (hm : m = 4 + sizeOfL k + 56 + sizeOfL k) :
 Calls Tryz.prog 26 #[.pointer (some ⟨kb, 0, none⟩), .int .i64 N, (.slice pm n cm)] w fun e w' => ∃ p c, e = .returned (.tuple #[.slice p m c, .int .i64 0]) ∧ BufR w.heap.size (sgL2 id sd k q r msg) w' (.slice p m c) ∧ ∃ L0, KeyMade id sd k q kb tb L0 ∧ (∀ j ∈ L0.map (·.1), j ∈ ([(kb, keyR ss k 2 (.pointer (some ⟨tb, 0, none⟩)) q (.int .u32 0) (.int .i32 0) (.pointer none) (.slice none 0 0) (.slice none 0 0), 98), (tb, cs, 74)] : List Ent).map (·.1) ∨ w.heap.size ≤ j) ∧ (∀ j ∈ ([(kb, keyR ss k 2 (.pointer (some ⟨tb, 0, none⟩)) q (.int .u32 0) (.int .i32 0) (.pointer none) (.slice none 0 0) (.slice none 0 0), 98), (tb, cs, 74)] : List Ent).map (·.1), j ∈ L0.map (·.1)) ∧ Own w w' L0 := by
 have h48 : ss.length = 48 := by rw [hss, List.length_append, h16, h32]
 refine (hsign_two (fun _ _ _ _ => True) w kb tb q r N hq hr hN 2 id sd h16 h32 k hk ss hss [(kb, keyR ss k 2 (.pointer (some ⟨tb, 0, none⟩)) q (.int .u32 0) (.int .i32 0) (.pointer none) (.slice none 0 0) (.slice none 0 0), 98), (tb, cs, 74)] _ (.head _) (keyR_k h48).2.1 H0 pm n cm msg hO hmb hml (fun j hj hm => ?_) (fun w1 X h hX => low_new kb tb q hq 2 id sd h16 h32 k hk ss hss cs hcs w w1 X h hX)).mono ?_
 · simp only [List.map_cons, List.map_nil, List.mem_cons, List.not_mem_nil, or_false] at hm
   have := hne j hj
   omega
 · rintro e w' ⟨v, rfl, h1, lt, pv, sv, M, _, h2, h3, h4, h5⟩
   obtain ⟨p, c, rfl⟩ := bufR_slice h1 ((length_sgL2 id sd k q r msg).trans hm.symm)
   exact ⟨p, c, rfl, h1, _, ⟨ss, lt, pv, sv, M, hss, h2, rfl⟩, h3, h4, h5⟩
end Go.Proofs.YtfihlmnbonnekaaGreat

/-! hss: Key.Sign, one level. -/
namespace Go.Proofs.YtfihlmnbonnekaaGreat
open Go.RowKit
set_option maxHeartbeats 32000000
set_option linter.unusedVariables false
set_option maxRecDepth 100000 in
theorem hsign_one (w : World) (kb tb N : Nat) (hN : N < 32) (id sd : List Int) (h16 : id.length = 16) (h32 : sd.length = 32) (k : Nat) (hk : k = 1 ∨ k = 2 ∨ k = 4 ∨ k = 8) (K0 cs : List Value) (hK1 : K0[49]? = some (.int .i64 1)) (hK2 : K0[50]? = some (.pointer (some ⟨tb, 0, none⟩))) (hcs : IsTree id sd k cs) (H0 : Own w w [(kb, K0, 98), (tb, cs, 74)])
 (pm : Option Addr) (n cm : Nat) (msg : List Int) (hO : Old w (.slice pm n cm) msg) (hmb : IsBytes msg) (hml : msg.length ≤ 90000) (hne : ∀ j, blk (.slice pm n cm) = some j → j ≠ kb ∧ j ≠ tb) :
 Calls Tryz.prog 26 #[.pointer (some ⟨kb, 0, none⟩), .int .i64 N, (.slice pm n cm)] w fun e w' => ∃ v, e = .returned (.tuple #[v, .int .i64 0]) ∧ BufR w.heap.size (numB 0 4 ++ lsigOf id sd k N msg) w' v ∧ Own w w' [(kb, K0, 98), (tb, fullT id sd k, 74)] := by
 have hmf : ∀ (fn : Fn) (first cap : Array Value) (w : World), (Instr.makeFunc fn first cap).run Tryz.prog w = .ok (.func fn first cap) w := fun _ _ _ _ => rfl
 have hm1 := Hh many_1
 have hput := Hh (fun (w2 : World) (M : List Ent) (wb mb : Nat) (v : Value) (xs : List Int) (h1 : Old w2 (.slice pm n cm) msg) (h2 : ∀ k, blk (.slice pm n cm) = some k → k ≠ tb) => put_any w w2 M wb mb tb v (.slice pm n cm) xs msg id sd h16 h32 k hk cs hcs N hN h1 hmb hml h2)
 have hlen4 : Hid ((numB 0 4).length = 4) := length_numB _ _
 obtain ⟨FT, hFT⟩ : ∃ x, x = fullT id sd k := ⟨_, rfl⟩
 obtain ⟨SR, hSR⟩ : ∃ x, x = lsigOf id sd k N msg := ⟨_, rfl⟩
 rw [← hSR] at hput ⊢
 rw [← hFT] at hput ⊢
 have hN0 : ¬ (N : Int) < 0 := by omega
 have hN1 : ¬ (32 : Int) ≤ N := by omega
 have hN2 : ¬ 32 ≤ N := by omega
 have hO' := Hh hO
 have hne' := Hh hne
 have H := H0
 clear H0 hFT hSR h16 h32 hk hcs hO hne
 go_enter Tryz.func26, Tryz.ntmps26
 have z1 := tt
 go_wp2_with (first
  | (clear z1; refine st_new rfl (rn_box (cs := [(.slice pm n cm)]) H rfl rfl rfl) ?_; clear H; intro mb w1 hmw H; have z2 := tt)
  | (clear z2; refine st_val rfl (rn_cell rfl rfl rfl rfl ((H.cell (.tail _ (.head _)) 49).trans hK1)) ?_; have z3 := tt)
  | (clear z3; go_at_call 25; refine (hm1.out _).mono ?_; rintro e w2 ⟨rfl, h2⟩; have H2 := H.call0 h2; clear H h2; have H := H2; clear H2; have z4 := tt)
  | (clear z4; refine st_new rfl (rn_alloc H rfl info_writer) ?_; clear H; intro wb w3 hwb H; have B : Buf 5 .u8 w w3 ((wb, [.slice none 0 0], 79) :: ((mb, [(.slice pm n cm)], 27) :: [(kb, K0, 98), (tb, cs, 74)])) (.slice none 0 0) [] := Buf.nil H; clear H; have z5 := tt)
  | (clear z5; refine st_val rfl (rn_cell rfl rfl rfl rfl ((B.own0.cell (.tail _ (.tail _ (.head _))) 49).trans hK1)) ?_; have z6 := tt)
  | (clear z6; go_at_call 37; refine (num_any _ _ _ _ _ _ B 0 4 (by omega) (by omega) (by simp)).mono ?_; rintro e w4 ⟨rfl, v4, B2⟩; clear B; have B := B2; clear B2; have z7 := tt)
  | (clear z7; refine st_val rfl (rn_cell rfl rfl rfl rfl ((B.own0.cell (.tail _ (.tail _ (.head _))) 49).trans hK1)) ?_; have z8 := tt)
  | (clear z8; refine st_val rfl (rn_cell rfl rfl rfl rfl ((B.own0.cell (.tail _ (.tail _ (.head _))) 50).trans hK2)) ?_; have OM : Hid (Old w4 (.slice pm n cm) msg) := old_out (L0 := [(kb, K0, 98), (tb, cs, 74)]) hO'.out (fun j hj hm => by have := hne'.out j hj; simp at hm; omega) B.own0 (fun j hm => by simp at hm ⊢; omega); have z9 := tt)
  | (clear z9; refine st_callC (P := Tryz.prog) (R := fun v w2 => BufR w.heap.size (([] ++ numB 0 4) ++ SR) w2 v ∧ Own w w2 [(kb, K0, 98), (tb, FT, 74)]) (f := 57) (cap := #[.pointer (some ⟨mb, 0, none⟩), .pointer (some ⟨wb, 0, none⟩)]) (args := #[(.pointer (some ⟨tb, 0, none⟩)), .int .i64 N, .pointer (some ⟨mb, 0, none⟩), .pointer (some ⟨wb, 0, none⟩)]) rfl rfl rfl (by simp [Act.eval]) Tryz.func57 (by kernel_rfl) (by kernel_rfl) ((hput.out w4 [(kb, K0, _)] wb mb v4 _ OM.out (fun j hj => (hne'.out j hj).2) (by rw [List.nil_append, hlen4.out]; omega) (by omega) (by omega) B).mono fun e w8 h => h) ?_; intro v67 w8 hr; have R8 := Hh hr.1; have H8 := Hh hr.2; clear hr B; have z10 := tt))
 go_ret2
 exact ⟨_, rfl, R8.out, H8.out⟩
theorem hver_self1 {id : List Int} (h16 : id.length = 16) (sd : List Int) {k : Nat} (hk : k = 1 ∨ k = 2 ∨ k = 4 ∨ k = 8) {q : Nat} (hq : q < 32) (msg : List Int) : hverL (numB 1 4 ++ pubL id sd k) msg (numB 0 4 ++ lsigOf id sd k q msg) = 0 := by
 have hpl := length_pubL h16 sd k
 have hPd : (numB 1 4 ++ pubL id sd k).drop 4 = pubL id sd k := List.drop_left' (length_numB _ _)
 have hPl : (numB 1 4 ++ pubL id sd k).length = 60 := by rw [List.length_append, length_numB, hpl]
 have hP2 : num4V (numB 1 4 ++ pubL id sd k) false = 1 := num4_small (q := 1) (by decide) _
 have hS1 : num4V (numB 0 4 ++ lsigOf id sd k q msg) false = 0 := num4_small (q := 0) (by decide) _
 have hSl : (numB 0 4 ++ lsigOf id sd k q msg).length = 4 + sizeOfL k := by rw [List.length_append, length_numB, length_lsigOf]
 have hSd : (numB 0 4 ++ lsigOf id sd k q msg).drop 4 = lsigOf id sd k q msg := List.drop_left' (length_numB _ _)
 unfold hverL
 rw [hPd, width_pubL h16 sd hk, hSd, hP2, hS1, hPl, hSl, ver_sig h16 sd hk hq]
 rw [if_pos ⟨rfl, Or.inl rfl, by omega⟩, if_pos ⟨by omega, by decide⟩, if_pos rfl]
end Go.Proofs.YtfihlmnbonnekaaGreat

/-! hss: Key.Sign asked for what it does not have. -/
namespace Go.Proofs.YtfihlmnbonnekaaGreat
open Go.RowKit
set_option maxHeartbeats 32000000
set_option linter.unusedVariables false
set_option maxRecDepth 100000 in
theorem hsign_neg (w : World) (kb : Nat) (pm : Option Addr) (n cm : Nat) :
 Calls Tryz.prog 26 #[.pointer (some ⟨kb, 0, none⟩), .int .i64 (-1), (.slice pm n cm)] w fun e w' => e = .returned (.tuple #[.slice none 0 0, .int .i64 1]) ∧ Own w w' [] := by
 have H := Own.refl w
 go_enter Tryz.func26, Tryz.ntmps26
 have z1 := tt
 go_wp2_with (first
  | (clear z1; refine st_new rfl (rn_box (cs := [(.slice pm n cm)]) H rfl rfl rfl) ?_; clear H; intro mb w1 hmw H; have z2 := tt))
 have h1 := Hh (H.end0 (by simpa using hmw))
 clear H
 go_ret2
 exact ⟨rfl, h1.out⟩
set_option maxRecDepth 100000 in
theorem hsign_full1 (w : World) (kb : Nat) (K0 : List Value) (hK1 : K0[49]? = some (.int .i64 1)) (hb : w.heap[kb]? = some (.cells K0.toArray 98 (0, 0))) (pm : Option Addr) (n cm : Nat) :
 Calls Tryz.prog 26 #[.pointer (some ⟨kb, 0, none⟩), .int .i64 32, (.slice pm n cm)] w fun e w' => e = .returned (.tuple #[.slice none 0 0, .int .i64 4]) ∧ Own w w' [] := by
 have H0 := Own.one hb
 have hm1 := Hh many_1
 have H := H0
 go_enter Tryz.func26, Tryz.ntmps26
 have z1 := tt
 go_wp2_with (first
  | (clear z1; refine st_new rfl (rn_box (cs := [(.slice pm n cm)]) H rfl rfl rfl) ?_; clear H; intro mb w1 hmw H; have z2 := tt)
  | (clear z2; refine st_val rfl (rn_cell rfl rfl rfl rfl ((H.cell (.tail _ (.head _)) 49).trans hK1)) ?_; have z3 := tt)
  | (clear z3; go_at_call 25; refine (hm1.out _).mono ?_; rintro e w2 ⟨rfl, h2⟩; have H2 := H.call0 h2; clear H h2; have H := H2; clear H2; have z4 := tt))
 have h1 := Hh ((Own.drop (L1 := [_]) H (by simpa using hmw)).sameL H0)
 clear H
 go_ret2
 exact ⟨rfl, h1.out⟩
set_option maxRecDepth 100000 in
theorem hsign_full2 (w : World) (kb : Nat) (K0 : List Value) (hK1 : K0[49]? = some (.int .i64 2)) (hb : w.heap[kb]? = some (.cells K0.toArray 98 (0, 0))) (pm : Option Addr) (n cm : Nat) :
 Calls Tryz.prog 26 #[.pointer (some ⟨kb, 0, none⟩), .int .i64 1024, (.slice pm n cm)] w fun e w' => e = .returned (.tuple #[.slice none 0 0, .int .i64 4]) ∧ Own w w' [] := by
 have H0 := Own.one hb
 have hm1 := Hh many_2
 have H := H0
 go_enter Tryz.func26, Tryz.ntmps26
 have z1 := tt
 go_wp2_with (first
  | (clear z1; refine st_new rfl (rn_box (cs := [(.slice pm n cm)]) H rfl rfl rfl) ?_; clear H; intro mb w1 hmw H; have z2 := tt)
  | (clear z2; refine st_val rfl (rn_cell rfl rfl rfl rfl ((H.cell (.tail _ (.head _)) 49).trans hK1)) ?_; have z3 := tt)
  | (clear z3; go_at_call 25; refine (hm1.out _).mono ?_; rintro e w2 ⟨rfl, h2⟩; have H2 := H.call0 h2; clear H h2; have H := H2; clear H2; have z4 := tt))
 have h1 := Hh ((Own.drop (L1 := [_]) H (by simpa using hmw)).sameL H0)
 clear H
 go_ret2
 exact ⟨rfl, h1.out⟩
end Go.Proofs.YtfihlmnbonnekaaGreat

/-! hss: a signature cut short or made longer does not hold (plain). -/
namespace Go.Proofs.YtfihlmnbonnekaaGreat
open Go.RowKit
set_option maxHeartbeats 32000000
set_option linter.unusedVariables false
theorem verL_len {pub msg sig : List Int} {k : Nat} (hk : k = 1 ∨ k = 2 ∨ k = 4 ∨ k = 8) (hw : widthL pub = k) (hl : sig.length ≠ sizeOfL k) : verL pub msg sig = 3 := by
 unfold verL verK
 rw [hw, if_neg (by omega), if_neg hl]
 repeat' split
 all_goals first | rfl | omega
section
variable {id : List Int} (h16 : id.length = 16) (sd : List Int) {k : Nat} (hk : k = 1 ∨ k = 2 ∨ k = 4 ∨ k = 8) (msg : List Int)
include h16 hk
theorem hver_len1 (S : List Int) (hl : S.length ≠ 4 + sizeOfL k) : hverL (numB 1 4 ++ pubL id sd k) msg S = 3 := by
 have hpl := length_pubL h16 sd k
 have hPd : (numB 1 4 ++ pubL id sd k).drop 4 = pubL id sd k := List.drop_left' (length_numB _ _)
 have hPl : (numB 1 4 ++ pubL id sd k).length = 60 := by rw [List.length_append, length_numB, hpl]
 have hP2 : num4V (numB 1 4 ++ pubL id sd k) false = 1 := num4_small (q := 1) (by decide) _
 have hw := width_pubL h16 sd hk
 unfold hverL
 rw [hPd, hw, hP2, hPl, if_pos ⟨rfl, Or.inl rfl, by omega⟩]
 by_cases h4 : 4 ≤ S.length ∧ num4V S false = 1 - 1
 · rw [if_pos h4, if_pos rfl]
   exact verL_len hk hw (by rw [List.length_drop]; omega)
 · rw [if_neg h4]
theorem hver_short2 (S : List Int) (hl : S.length < 4 + sizeOfL k + 56) : hverL (numB 2 4 ++ pubL id sd k) msg S = 3 := by
 have hpl := length_pubL h16 sd k
 have hPd : (numB 2 4 ++ pubL id sd k).drop 4 = pubL id sd k := List.drop_left' (length_numB _ _)
 have hPl : (numB 2 4 ++ pubL id sd k).length = 60 := by rw [List.length_append, length_numB, hpl]
 have hP2 : num4V (numB 2 4 ++ pubL id sd k) false = 2 := num4_small (q := 2) (by decide) _
 have hw := width_pubL h16 sd hk
 unfold hverL
 rw [hPd, hw, hP2, hPl, if_pos ⟨rfl, Or.inr rfl, by omega⟩]
 by_cases h4 : 4 ≤ S.length ∧ num4V S false = 2 - 1
 · rw [if_pos h4, if_neg (by decide), if_neg (fun h => by have := h.1; rw [List.length_drop] at this; omega)]
 · rw [if_neg h4]
theorem hver_len2 (q : Nat) (R : List Int) (hl : R.length ≠ sizeOfL k) : hverL (numB 2 4 ++ pubL id sd k) msg (numB 1 4 ++ lsigOf id sd k q (pubL (cidOf id sd q) (csdOf id sd q) k) ++ pubL (cidOf id sd q) (csdOf id sd q) k ++ R) = 3 := by
 have c16 := length_cidOf id sd q
 have hpl := length_pubL h16 sd k
 have hcl := length_pubL c16 (csdOf id sd q) k
 have hPd : (numB 2 4 ++ pubL id sd k).drop 4 = pubL id sd k := List.drop_left' (length_numB _ _)
 have hPl : (numB 2 4 ++ pubL id sd k).length = 60 := by rw [List.length_append, length_numB, hpl]
 have hP2 : num4V (numB 2 4 ++ pubL id sd k) false = 2 := num4_small (q := 2) (by decide) _
 have hw := width_pubL h16 sd hk
 have hwc := width_pubL c16 (csdOf id sd q) hk
 have hl1 := length_lsigOf id sd k q (pubL (cidOf id sd q) (csdOf id sd q) k)
 unfold hverL
 rw [hPd, hw, hP2, hPl, if_pos ⟨rfl, Or.inr rfl, by omega⟩]
 split
 · rw [if_neg (by decide)]
   split
   · rw [List.append_assoc, List.append_assoc, List.drop_left' (length_numB _ _), List.drop_left' hl1, List.take_left' hcl, List.drop_left' hcl]
     exact verL_len hk hwc hl
   · rfl
 · rfl
theorem hver_cut2 {q r : Nat} {i : Nat} (hi : i < (sgL2 id sd k q r msg).length) : hverL (numB 2 4 ++ pubL id sd k) msg ((sgL2 id sd k q r msg).take i) = 3 := by
 have hL := length_sgL2 id sd k q r msg
 by_cases h : i < 4 + sizeOfL k + 56
 · exact hver_short2 h16 sd hk msg _ (by rw [List.length_take]; omega)
 · have hcl := length_pubL (length_cidOf id sd q) (csdOf id sd q) k
   have hl1 := length_lsigOf id sd k q (pubL (cidOf id sd q) (csdOf id sd q) k)
   have hl2 := length_lsigOf (cidOf id sd q) (csdOf id sd q) k r msg
   have hpre : (numB 1 4 ++ lsigOf id sd k q (pubL (cidOf id sd q) (csdOf id sd q) k) ++ pubL (cidOf id sd q) (csdOf id sd q) k).length = 4 + sizeOfL k + 56 := by rw [List.length_append, List.length_append, length_numB, hl1, hcl]
   have e : (sgL2 id sd k q r msg).take i = numB 1 4 ++ lsigOf id sd k q (pubL (cidOf id sd q) (csdOf id sd q) k) ++ pubL (cidOf id sd q) (csdOf id sd q) k ++ (lsigOf (cidOf id sd q) (csdOf id sd q) k r msg).take (i - (4 + sizeOfL k + 56)) := by
    unfold sgL2
    rw [List.take_append, hpre, List.take_of_length_le (by rw [hpre]; omega)]
   rw [e]
   exact hver_len2 h16 sd hk msg q _ (by rw [List.length_take]; omega)
theorem hver_more2 {q r : Nat} (x : Int) : hverL (numB 2 4 ++ pubL id sd k) msg (sgL2 id sd k q r msg ++ [x]) = 3 := by
 unfold sgL2
 rw [List.append_assoc]
 exact hver_len2 h16 sd hk msg q _ (by rw [List.length_append, length_lsigOf]; simp)
end
end Go.Proofs.YtfihlmnbonnekaaGreat

/-! hss: Sign and Public of a new key, one level or two. -/
namespace Go.Proofs.YtfihlmnbonnekaaGreat
open Go.RowKit
set_option maxHeartbeats 32000000
set_option linter.unusedVariables false
def sgnL (id sd : List Int) (k : Nat) (l : Int) (N : Nat) (msg : List Int) : List Int := if l = 1 then numB 0 4 ++ lsigOf id sd k N msg else sgL2 id sd k (N / 32) (N % 32) msg
theorem isBytes_sgnL (id sd : List Int) (k : Nat) (l : Int) (N : Nat) (msg : List Int) : IsBytes (sgnL id sd k l N msg) := by
 unfold sgnL
 split
 · exact isBytes_app (isBytes_numB _ _) (isBytes_lsigOf _ _ _ _ _)
 · exact isBytes_sgL2 _ _ _ _ _ _
def KeyIn (id sd : List Int) (k : Nat) (l : Int) (kb tb : Nat) (L0 : List Ent) : Prop := ∃ K0 : List Value, (kb, K0, 98) ∈ L0 ∧ K0[49]? = some (.int .i64 l) ∧ K0[50]? = some (.pointer (some ⟨tb, 0, none⟩)) ∧ (tb, fullT id sd k, 74) ∈ L0
theorem km_sign (kb tb N m : Nat) (l : Int) (hl : l = 1 ∧ N < 32 ∨ l = 2 ∧ N < 1024) (id sd : List Int) (h16 : id.length = 16) (h32 : sd.length = 32) (k : Nat) (hk : k = 1 ∨ k = 2 ∨ k = 4 ∨ k = 8) (w : World) (H0 : Own w w [(kb, keyC (id ++ sd) k l (.pointer (some ⟨tb, 0, none⟩)) lows0, 98), (tb, treeG (id ++ sd) k 0 0 (List.replicate 2048 0) 0, 74)])
 (pm : Option Addr) (n cm : Nat) (msg : List Int) (hO : Old w (.slice pm n cm) msg) (hmb : IsBytes msg) (hml : msg.length ≤ 90000) (hne : ∀ j, blk (.slice pm n cm) = some j → j ≠ kb ∧ j ≠ tb) (hm : (sgnL id sd k l N msg).length = m) :
 Calls Tryz.prog 26 #[.pointer (some ⟨kb, 0, none⟩), .int .i64 N, (.slice pm n cm)] w fun e w' => ∃ p c, e = .returned (.tuple #[.slice p m c, .int .i64 0]) ∧ BufR w.heap.size (sgnL id sd k l N msg) w' (.slice p m c) ∧ ∃ L0, KeyIn id sd k l kb tb L0 ∧ (∀ j ∈ L0.map (·.1), j ∈ ([(kb, keyC (id ++ sd) k l (.pointer (some ⟨tb, 0, none⟩)) lows0, 98), (tb, treeG (id ++ sd) k 0 0 (List.replicate 2048 0) 0, 74)] : List Ent).map (·.1) ∨ w.heap.size ≤ j) ∧ (∀ j ∈ ([(kb, keyC (id ++ sd) k l (.pointer (some ⟨tb, 0, none⟩)) lows0, 98), (tb, treeG (id ++ sd) k 0 0 (List.replicate 2048 0) 0, 74)] : List Ent).map (·.1), j ∈ L0.map (·.1)) ∧ Own w w' L0 := by
 have h48 : (id ++ sd).length = 48 := by rw [List.length_append, h16, h32]
 rcases hl with ⟨rfl, hN⟩ | ⟨rfl, hN⟩
 · refine (hsign_one w kb tb N hN id sd h16 h32 k hk _ _ (key_k h48).2.1 (key_k h48).2.2 (Or.inl rfl) H0 pm n cm msg hO hmb hml hne).mono ?_
   rintro e w' ⟨v, rfl, h1, h2⟩
   have h1' : BufR w.heap.size (sgnL id sd k 1 N msg) w' v := h1
   obtain ⟨p, c, rfl⟩ := bufR_slice h1' hm
   exact ⟨p, c, rfl, h1', _, ⟨_, .head _, (key_k h48).2.1, (key_k h48).2.2, .tail _ (.head _)⟩, fun j hj => Or.inl hj, fun j hj => hj, h2⟩
 · have hq : N / 32 < 32 := by omega
   rw [keyC_R _ _ _ _ hq] at H0 ⊢
   have hm2 : m = 4 + sizeOfL k + 56 + sizeOfL k := hm.symm.trans (length_sgL2 id sd k (N / 32) (N % 32) msg)
   refine (km_first kb tb (N / 32) (N % 32) N m hq (by omega) (by omega) id sd h16 h32 k hk (id ++ sd) rfl w _ (Or.inl rfl) H0 pm n cm msg hO hmb hml hne hm2).mono ?_
   rintro e w' ⟨p, c, rfl, h1, L0, ⟨ss, lt, pv, sv, M, rfl, g1, rfl⟩, g2, g3, g4⟩
   exact ⟨p, c, rfl, h1, _, ⟨_, .head _, (keyR_k h48).2.1, (keyR_k h48).2.2, .tail _ (.head _)⟩, g2, g3, g4⟩
theorem km_public (kb tb : Nat) (l : Int) (hl : l = 1 ∨ l = 2) (id sd : List Int) (h16 : id.length = 16) (h32 : sd.length = 32) (k : Nat) (hk : k = 1 ∨ k = 2 ∨ k = 4 ∨ k = 8) (w : World) (L0 : List Ent) (hL : KeyIn id sd k l kb tb L0) (H0 : Own w w L0) :
 Calls Tryz.prog 27 #[.pointer (some ⟨kb, 0, none⟩)] w fun e w' => ∃ p c, e = .returned (.slice p 60 c) ∧ BufR w.heap.size (numB l 4 ++ pubL id sd k) w' (.slice p 60 c) ∧ Own w w' [] := by
 obtain ⟨K0, h1, h2, h3, h4⟩ := hL
 have hlen : (numB l 4 ++ pubL id sd k).length = 60 := by rw [List.length_append, length_numB, length_pubL h16]
 rcases hl with rfl | rfl
 · refine (hpub_1 w kb tb id sd h16 h32 k hk L0 K0 h1 h2 h3 h4 H0).mono ?_
   rintro e w' ⟨v, rfl, g1, g2⟩
   obtain ⟨p, c, rfl⟩ := bufR_slice g1 hlen
   exact ⟨p, c, rfl, g1, g2⟩
 · refine (hpub_2 w kb tb id sd h16 h32 k hk L0 K0 h1 h2 h3 h4 H0).mono ?_
   rintro e w' ⟨v, rfl, g1, g2⟩
   obtain ⟨p, c, rfl⟩ := bufR_slice g1 hlen
   exact ⟨p, c, rfl, g1, g2⟩
theorem km_full (kb tb : Nat) (l : Int) (N : Int) (hl : l = 1 ∧ N = 32 ∨ l = 2 ∧ N = 1024) (id sd : List Int) (k : Nat) (w : World) (L0 : List Ent) (hL : KeyIn id sd k l kb tb L0) (H0 : Own w w L0) (pm : Option Addr) (n cm : Nat) :
 Calls Tryz.prog 26 #[.pointer (some ⟨kb, 0, none⟩), .int .i64 N, (.slice pm n cm)] w fun e w' => e = .returned (.tuple #[.slice none 0 0, .int .i64 4]) ∧ Own w w' [] := by
 obtain ⟨K0, h1, h2, h3, h4⟩ := hL
 rcases hl with ⟨rfl, rfl⟩ | ⟨rfl, rfl⟩
 · exact hsign_full1 w kb K0 h2 (H0.here _ _ _ h1) pm n cm
 · exact hsign_full2 w kb K0 h2 (H0.here _ _ _ h1) pm n cm
theorem hver_own (l : Int) (N : Nat) (hl : l = 1 ∧ N < 32 ∨ l = 2 ∧ N < 1024) {id : List Int} (h16 : id.length = 16) (sd : List Int) {k : Nat} (hk : k = 1 ∨ k = 2 ∨ k = 4 ∨ k = 8) (msg : List Int) :
 hverL (numB l 4 ++ pubL id sd k) msg (sgnL id sd k l N msg) = 0 ∧ (∀ i, i < (sgnL id sd k l N msg).length → hverL (numB l 4 ++ pubL id sd k) msg ((sgnL id sd k l N msg).take i) = 3) ∧ ∀ X : List Int, X.length = (sgnL id sd k l N msg).length + 1 → (l = 1 ∨ ∃ x, X = sgnL id sd k l N msg ++ [x]) → hverL (numB l 4 ++ pubL id sd k) msg X = 3 := by
 rcases hl with ⟨rfl, hN⟩ | ⟨rfl, hN⟩
 · have hL : (sgnL id sd k 1 N msg).length = 4 + sizeOfL k := by show (numB 0 4 ++ lsigOf id sd k N msg).length = _; rw [List.length_append, length_numB, length_lsigOf]
   refine ⟨hver_self1 h16 sd hk hN msg, fun i hi => hver_len1 h16 sd hk msg _ (by rw [List.length_take]; omega), fun X hX _ => hver_len1 h16 sd hk msg _ (by omega)⟩
 · refine ⟨hver_self2 h16 sd hk (by omega) (by omega) msg, fun i hi => hver_cut2 h16 sd hk msg hi, fun X hX h => ?_⟩
   rcases h with h | ⟨x, rfl⟩
   · exact absurd h (by decide)
   · exact hver_more2 h16 sd hk msg x
end Go.Proofs.YtfihlmnbonnekaaGreat
