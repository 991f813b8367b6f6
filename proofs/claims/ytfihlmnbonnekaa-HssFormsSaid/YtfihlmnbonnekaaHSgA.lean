/- hss: a key's signature, two levels. -/
import Derived.Test.YtfihlmnbonnekaaHPut
namespace Go.Proofs.Ytfihlmnbonnekaa
open Go.RowKit

set_option linter.unusedVariables false
/-- these rows stand so -/
def hereR (w : World) (M : List Ent) : Prop := ∀ b cs T, (b, cs, T) ∈ M → w.heap[b]? = some (.cells (List.toArray cs) T (0, 0))
/-- two pieces of bytes that stand so as long as the rows do -/
def LowM (xs ys : List Int) (pv sv : Value) (M : List Ent) : Prop := ∀ w, hereR w M → Old w pv xs ∧ Old w sv ys
theorem lowM_new {B m n : Nat} {xs ys : List Int} {w : World} {pv sv : Value} (h1 : NewB B m xs w pv) (h2 : NewB B n ys w sv) : ∃ M, LowM xs ys pv sv M ∧ hereR w M ∧ (M.map (·.1)).Nodup ∧ ∀ j ∈ M.map (·.1), B ≤ j ∧ ∃ cs : List Value, w.heap[j]? = some (.cells cs.toArray 5 (0, 0)) := by
  obtain ⟨p1, c1, rfl, ⟨g1, d1, cs1, a1, a2, a3, a4, a5, a6, a7⟩, _⟩ := h1
  obtain ⟨p2, c2, rfl, ⟨g2, d2, cs2, b1, b2, b3, b4, b5, b6, b7⟩, _⟩ := h2
  by_cases e : g1 = g2
  · subst e
    have e2 : some (Obj.cells cs1.toArray 5 (0, 0)) = some (Obj.cells cs2.toArray 5 (0, 0)) := a7.symm.trans b7
    refine ⟨[(g1, cs1, 5)], fun w' h => ⟨BufS.old (B := B) ⟨g1, d1, cs1, a1, a2, a3, a4, a5, a6, h _ _ _ (.head _)⟩, BufS.old (B := B) ⟨g1, d2, cs2, b1, b2, b3, b4, b5, b6, (h _ _ _ (.head _)).trans e2⟩⟩, fun b cs T hm => by simp at hm; obtain ⟨rfl, rfl, rfl⟩ := hm; exact a7, by simp, fun j hj => by simp at hj; subst hj; exact ⟨a6, _, a7⟩⟩
  · refine ⟨[(g1, cs1, 5), (g2, cs2, 5)], fun w' h => ⟨BufS.old (B := B) ⟨g1, d1, cs1, a1, a2, a3, a4, a5, a6, h _ _ _ (.head _)⟩, BufS.old (B := B) ⟨g2, d2, cs2, b1, b2, b3, b4, b5, b6, h _ _ _ (.tail _ (.head _))⟩⟩, fun b cs T hm => ?_, by simpa using e, fun j hj => ?_⟩
    · rcases List.mem_cons.1 hm with h | h
      · cases h; exact a7
      · cases List.mem_singleton.1 h; exact b7
    · simp at hj
      rcases hj with rfl | rfl
      · exact ⟨a6, _, a7⟩
      · exact ⟨b6, _, b7⟩
theorem Own.adoptL {w0 w : World} {L M : List Ent} (H : Own w0 w L) (hM : hereR w M) (hn : (M.map (·.1)).Nodup) (hd : ∀ j ∈ M.map (·.1), j ∉ L.map (·.1)) : Own w0 w (L ++ M) := by
  refine ⟨H.os, H.tape, H.output, H.size, fun k hk hkn => H.keep k hk (fun h => hkn (by rw [List.map_append]; exact List.mem_append_left _ h)), ?_, fun b cs T hm => ?_⟩
  · rw [List.map_append, List.nodup_append]
    exact ⟨H.nodup, hn, fun a ha b hb e => hd b hb (e ▸ ha)⟩
  · rcases List.mem_append.1 hm with h | h
    · exact H.here b cs T h
    · exact hM b cs T h
theorem Own.selfL {w0 w : World} {L M : List Ent} (H : Own w0 w (L ++ M)) : Own w w L := by
  have hr := Own.refl w
  refine ⟨hr.os, hr.tape, hr.output, hr.size, fun k hk _ => hr.keep k hk (by simp), ?_, fun b cs T hm => H.here b cs T (List.mem_append_left _ hm)⟩
  have h := H.nodup
  rw [List.map_append, List.nodup_append] at h
  exact h.1
theorem Buf.callU {e : TypeId} {k : IntKind} {w0 w w' : World} {L Lr Lr' : List Ent} {v : Value} {xs : List Int} (E : Buf e k w0 w (L ++ Lr) v xs) (hu : Own w w' Lr') (hk : ∀ j ∈ Lr'.map (·.1), j ∈ Lr.map (·.1) ∨ w.heap.size ≤ j) (hk2 : ∀ j ∈ Lr.map (·.1), j ∈ Lr'.map (·.1)) : Buf e k w0 w' (L ++ Lr') v xs := by
  obtain ⟨Lv, h1, h2, h3⟩ := E
  refine ⟨Lv, h1, ?_, h3⟩
  have p1 : (Lv ++ (L ++ Lr)).Perm (Lr ++ (Lv ++ L)) := by rw [← List.append_assoc]; exact List.perm_append_comm
  have p2 : (Lr' ++ (Lv ++ L)).Perm (Lv ++ (L ++ Lr')) := by rw [← List.append_assoc Lv]; exact List.perm_append_comm
  exact (Own.call (h2.perm p1) ⟨hu, hk⟩ (fun j hj => Or.inl (hk2 j hj))).perm p2
theorem low_new (kb tb : Nat) (q : Nat) (hq : q < 32) (l : Int) (id sd : List Int) (h16 : id.length = 16) (h32 : sd.length = 32) (k : Nat) (hk : k = 1 ∨ k = 2 ∨ k = 4 ∨ k = 8) (ss : List Int) (hss : ss = id ++ sd) (cs : List Value) (hcs : IsTree id sd k cs) (w w1 : World) (X : List Ent) (H : Own w w1 (X ++ [(kb, keyR ss k l (.pointer (some ⟨tb, 0, none⟩)) q (.int .u32 0) (.int .i32 0) (.pointer none) (.slice none 0 0) (.slice none 0 0), 114), (tb, cs, 104)])) (hX : ∀ j ∈ X.map (·.1), w.heap.size ≤ j) :
    Calls Try.prog 67 #[.pointer (some ⟨kb, 0, none⟩), .int .i64 q] w1 fun e w2 => e = .returned (.pointer (some ⟨kb, 51 + 6 * q, none⟩)) ∧ ∃ lt pv sv M, True ∧ LowM (pubL (cidOf id sd q) (csdOf id sd q) k) (lsigOf id sd k q (pubL (cidOf id sd q) (csdOf id sd q) k)) pv sv M ∧ (∀ j ∈ ((kb, keyR ss k l (.pointer (some ⟨tb, 0, none⟩)) q (.int .u32 1) (.int .i32 0) (.pointer (some ⟨lt, 0, none⟩)) pv sv, 114) :: (tb, fullT id sd k, 104) :: (M ++ [(lt, fullT (cidOf id sd q) (csdOf id sd q) k, 104)])).map (·.1), j ∈ ([(kb, keyR ss k l (.pointer (some ⟨tb, 0, none⟩)) q (.int .u32 0) (.int .i32 0) (.pointer none) (.slice none 0 0) (.slice none 0 0), 114), (tb, cs, 104)] : List Ent).map (·.1) ∨ w1.heap.size ≤ j) ∧ (∀ j ∈ ([(kb, keyR ss k l (.pointer (some ⟨tb, 0, none⟩)) q (.int .u32 0) (.int .i32 0) (.pointer none) (.slice none 0 0) (.slice none 0 0), 114), (tb, cs, 104)] : List Ent).map (·.1), j ∈ ((kb, keyR ss k l (.pointer (some ⟨tb, 0, none⟩)) q (.int .u32 1) (.int .i32 0) (.pointer (some ⟨lt, 0, none⟩)) pv sv, 114) :: (tb, fullT id sd k, 104) :: (M ++ [(lt, fullT (cidOf id sd q) (csdOf id sd q) k, 104)])).map (·.1)) ∧ Own w1 w2 ((kb, keyR ss k l (.pointer (some ⟨tb, 0, none⟩)) q (.int .u32 1) (.int .i32 0) (.pointer (some ⟨lt, 0, none⟩)) pv sv, 114) :: (tb, fullT id sd k, 104) :: (M ++ [(lt, fullT (cidOf id sd q) (csdOf id sd q) k, 104)])) := by
  have H1 := (H.drop hX).self
  refine (under_new w1 kb tb q hq l id sd h16 h32 k hk ss hss cs hcs rfl H1).mono ?_
  rintro e w2 ⟨h1, lt, pv, sv, g1, g2, g3, g4, h2⟩
  obtain ⟨M, m1, m2, m3, m4⟩ := lowM_new g2 g3
  have hkb := H1.lt (.head _)
  have htb := H1.lt (.tail _ (.head _))
  have hlt : lt ∉ M.map (·.1) := fun hm => by
    obtain ⟨_, cs', e⟩ := m4 lt hm
    have g1' : w2.heap[lt]? = _ := g1
    rw [e] at g1'
    injection g1' with g1'
    injection g1' with _ g1'
    exact absurd g1' (by decide)
  refine ⟨h1, lt, pv, sv, M, trivial, m1, fun j hj => ?_, fun j hj => ?_, Own.adoptL (L := [_, _]) (M := M ++ [(lt, fullT (cidOf id sd q) (csdOf id sd q) k, 104)]) h2 (fun b cs' T' hm => ?_) ?_ fun j hj => ?_⟩
  · simp only [List.map_cons, List.map_append, List.map_nil, List.mem_cons, List.mem_append, List.not_mem_nil, or_false] at hj ⊢
    rcases hj with rfl | rfl | hj | rfl
    · exact Or.inl (Or.inl rfl)
    · exact Or.inl (Or.inr rfl)
    · exact Or.inr (m4 j hj).1
    · exact Or.inr g4
  · simp only [List.map_cons, List.map_append, List.map_nil, List.mem_cons, List.mem_append, List.not_mem_nil, or_false] at hj ⊢
    rcases hj with rfl | rfl
    · exact Or.inl rfl
    · exact Or.inr (Or.inl rfl)
  · rcases List.mem_append.1 hm with h | h
    · exact m2 _ _ _ h
    · cases List.mem_singleton.1 h; exact g1
  · rw [List.map_append, List.nodup_append]
    refine ⟨m3, by simp, fun a ha b hb e => ?_⟩
    simp at hb
    exact hlt (by rw [← hb, ← e]; exact ha)
  · simp only [List.map_append, List.mem_append, List.map_cons, List.map_nil, List.mem_cons, List.not_mem_nil, or_false] at hj ⊢
    rcases hj with hj | rfl
    · have := (m4 j hj).1; omega
    · omega
theorem low_old (kb tb lt0 : Nat) (pv0 sv0 : Value) (M0 : List Ent) (q : Nat) (hq : q < 32) (l : Int) (id sd : List Int) (h16 : id.length = 16) (h32 : sd.length = 32) (k : Nat) (hk : k = 1 ∨ k = 2 ∨ k = 4 ∨ k = 8) (ss : List Int) (hss : ss = id ++ sd) (hM : LowM (pubL (cidOf id sd q) (csdOf id sd q) k) (lsigOf id sd k q (pubL (cidOf id sd q) (csdOf id sd q) k)) pv0 sv0 M0) (w w1 : World) (X : List Ent) (H : Own w w1 (X ++ ((kb, keyR ss k l (.pointer (some ⟨tb, 0, none⟩)) q (.int .u32 1) (.int .i32 0) (.pointer (some ⟨lt0, 0, none⟩)) pv0 sv0, 114) :: (tb, fullT id sd k, 104) :: (M0 ++ [(lt0, fullT (cidOf id sd q) (csdOf id sd q) k, 104)])))) (hX : ∀ j ∈ X.map (·.1), w.heap.size ≤ j) :
    Calls Try.prog 67 #[.pointer (some ⟨kb, 0, none⟩), .int .i64 q] w1 fun e w2 => e = .returned (.pointer (some ⟨kb, 51 + 6 * q, none⟩)) ∧ ∃ lt pv sv M, (lt = lt0 ∧ pv = pv0 ∧ sv = sv0 ∧ M = M0) ∧ LowM (pubL (cidOf id sd q) (csdOf id sd q) k) (lsigOf id sd k q (pubL (cidOf id sd q) (csdOf id sd q) k)) pv sv M ∧ (∀ j ∈ ((kb, keyR ss k l (.pointer (some ⟨tb, 0, none⟩)) q (.int .u32 1) (.int .i32 0) (.pointer (some ⟨lt, 0, none⟩)) pv sv, 114) :: (tb, fullT id sd k, 104) :: (M ++ [(lt, fullT (cidOf id sd q) (csdOf id sd q) k, 104)])).map (·.1), j ∈ ((kb, keyR ss k l (.pointer (some ⟨tb, 0, none⟩)) q (.int .u32 1) (.int .i32 0) (.pointer (some ⟨lt0, 0, none⟩)) pv0 sv0, 114) :: (tb, fullT id sd k, 104) :: (M0 ++ [(lt0, fullT (cidOf id sd q) (csdOf id sd q) k, 104)]) : List Ent).map (·.1) ∨ w1.heap.size ≤ j) ∧ (∀ j ∈ ((kb, keyR ss k l (.pointer (some ⟨tb, 0, none⟩)) q (.int .u32 1) (.int .i32 0) (.pointer (some ⟨lt0, 0, none⟩)) pv0 sv0, 114) :: (tb, fullT id sd k, 104) :: (M0 ++ [(lt0, fullT (cidOf id sd q) (csdOf id sd q) k, 104)]) : List Ent).map (·.1), j ∈ ((kb, keyR ss k l (.pointer (some ⟨tb, 0, none⟩)) q (.int .u32 1) (.int .i32 0) (.pointer (some ⟨lt, 0, none⟩)) pv sv, 114) :: (tb, fullT id sd k, 104) :: (M ++ [(lt, fullT (cidOf id sd q) (csdOf id sd q) k, 104)])).map (·.1)) ∧ Own w1 w2 ((kb, keyR ss k l (.pointer (some ⟨tb, 0, none⟩)) q (.int .u32 1) (.int .i32 0) (.pointer (some ⟨lt, 0, none⟩)) pv sv, 114) :: (tb, fullT id sd k, 104) :: (M ++ [(lt, fullT (cidOf id sd q) (csdOf id sd q) k, 104)])) := by
  have H1 : Own w1 w1 ((kb, keyR ss k l (.pointer (some ⟨tb, 0, none⟩)) q (.int .u32 1) (.int .i32 0) (.pointer (some ⟨lt0, 0, none⟩)) pv0 sv0, 114) :: (tb, fullT id sd k, 104) :: (M0 ++ [(lt0, fullT (cidOf id sd q) (csdOf id sd q) k, 104)])) := (H.drop hX).self
  have h48 : ss.length = 48 := by rw [hss, List.length_append, h16, h32]
  refine (under_old w1 kb tb q hq l k ss h48 (fullT id sd k) (.pointer (some ⟨lt0, 0, none⟩)) pv0 sv0 (Own.selfL (L := [_, _]) H1)).mono ?_
  rintro e w2 ⟨h1, h2⟩
  exact ⟨h1, lt0, pv0, sv0, M0, ⟨rfl, rfl, rfl, rfl⟩, hM, fun j hj => Or.inl hj, fun j hj => hj, Own.next (L := [_, _]) H1 h2 rfl⟩

end Go.Proofs.Ytfihlmnbonnekaa
