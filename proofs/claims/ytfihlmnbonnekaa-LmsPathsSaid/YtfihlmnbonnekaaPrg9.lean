/- ots: Candidate of the right length. -/
import Derived.Test.YtfihlmnbonnekaaPrg8
namespace Go.Proofs.Ytfihlmnbonnekaa
open Go.RowKit

theorem nodup_of {w0 w : World} {L : List Ent} (H : Own w0 w L) : (L.map (·.1)).Nodup := H.nodup

/-- the reader behind the first i pieces -/
def RdP (wk : World) (r C : Nat) (xs : List Int) (i : Nat) (Lr : List Ent) : Prop := ∃ p c, Lr = [(r, [.slice p (32 * C - 32 * i) c, .bool false], 132)] ∧ (∀ w' L, Own wk w' L → (∀ j ∈ L.map (·.1), j = r ∨ wk.heap.size ≤ j) → BytesAt w' (.slice p (32 * C - 32 * i) c) (xs.drop (32 * i))) ∧ ∀ k, blk (Value.slice p (32 * C - 32 * i) c) = some k → k ≠ r ∧ k < wk.heap.size

theorem candKey_any (wk : World) (id : List Int) (h16 : id.length = 16) (q k t : Nat) (hq : q < 32) (hk : k = 1 ∨ k = 2 ∨ k = 4 ∨ k = 8) (ht : t = 2 ^ k - 1) (ht9 : t ≤ 255) (M sig : List Int) (hl : sig.length = 36 + 32 * chN k) (hsb : IsBytes sig)
    (p5 p6 p12 p13 p15 r gd od cd : Nat) (p : Option Addr) (c : Nat)
    (H0 : Own wk wk [(r, [.slice p (32 * chN k) c, .bool false], 132)]) (hs : BytesAt wk (.slice p (32 * chN k) c) (sig.drop 36)) (hne : ∀ k', blk (Value.slice p (32 * chN k) c) = some k' → k' ≠ r ∧ k' < wk.heap.size)
    (h5 : ∀ j v, (u8s id)[j]? = some v → wk.cell? ⟨p5, 0 + j, none⟩ = some v) (h6 : wk.cell? ⟨p6, 0, none⟩ = some (.int .i64 q)) (h12 : wk.cell? ⟨p12, 0, none⟩ = some (.pointer (some ⟨r, 0, none⟩))) (h13 : wk.cell? ⟨p13, 0, none⟩ = some (.slice (some ⟨gd, od, none⟩) (chN k) cd)) (hdc : ∀ i v, (ints .i64 (digits M k))[i]? = some v → wk.cell? ⟨gd, od + i, none⟩ = some v) (h15 : wk.cell? ⟨p15, 0, none⟩ = some (.int .i64 t))
    (hlt : (p5 < wk.heap.size ∧ p6 < wk.heap.size ∧ p12 < wk.heap.size ∧ p13 < wk.heap.size ∧ p15 < wk.heap.size ∧ gd < wk.heap.size) ∧ (p5 ≠ r ∧ p6 ≠ r ∧ p12 ≠ r ∧ p13 ≠ r ∧ p15 ≠ r ∧ gd ≠ r)) :
    Calls Try.prog 84 #[.agg (u8s id).toArray, .int .i64 q, .int .i64 k, .func (.func 85) #[] #[.pointer (some ⟨p5, 0, none⟩), .pointer (some ⟨p6, 0, none⟩), .pointer (some ⟨p12, 0, none⟩), .pointer (some ⟨p13, 0, none⟩), .pointer (some ⟨p15, 0, none⟩)]] wk fun e w' => e = .returned (.agg (u8s (endsOf id q (flatX (candX id q k M sig) (chN k)))).toArray) ∧ ∃ cs, Own wk w' [(r, cs, 132)] := by
  obtain ⟨hC0, hC1⟩ := chN_le k
  have hxs : (sig.drop 36).length = 32 * chN k := by rw [List.length_drop]; omega
  have hfwd : ∀ (v : Value) (ys : List Int), BytesAt wk v ys → (∀ k', blk v = some k' → k' ≠ r ∧ k' < wk.heap.size) → ∀ w' L, Own wk w' L → (∀ j ∈ L.map (·.1), j = r ∨ wk.heap.size ≤ j) → BytesAt w' v ys := fun v ys h1 h2 w' L h3 h4 => SlAt.own h1 h3 (fun k' hk' hm => by have := h2 k' hk'; have := h4 k' hm; omega)
  have h := key_any wk id h16 q k hq hk 85 _ #[.pointer (some ⟨p5, 0, none⟩), .pointer (some ⟨p6, 0, none⟩), .pointer (some ⟨p12, 0, none⟩), .pointer (some ⟨p13, 0, none⟩), .pointer (some ⟨p15, 0, none⟩)] Try.func85 (by kernel_rfl) (by kernel_rfl) (RdP wk r (chN k) (sig.drop 36)) [r] (fun i Lr ⟨p, c, h1, _⟩ => by rw [h1]; rfl) (candX id q k M sig) (fun i => ?_) (fun i => ?_) ⟨_, ⟨p, c, rfl, ?_, ?_⟩, H0⟩ ?_
  · refine h.mono ?_
    rintro e w' ⟨h1, Lr, ⟨p2, c2, rfl, _⟩, h2⟩
    exact ⟨h1, _, h2⟩
  · exact length_stepsC (length_pieceOf _ _) _
  · exact isBytes_stepsC (isBytes_pieceOf hsb _) _
  · intro w' L h1 h2
    exact hfwd _ _ hs hne w' L h1 h2
  · exact hne
  · intro i hi w' L Lr hRP hw' hL
    obtain ⟨p1, c1, rfl, hb, hbk⟩ := hRP
    have hkeys : ∀ j ∈ (L ++ [(r, [.slice p1 (32 * chN k - 32 * i) c1, .bool false], 132)] : List Ent).map (·.1), j = r ∨ wk.heap.size ≤ j := fun j hj => by
      rw [List.map_append, List.mem_append] at hj
      rcases hj with hj | hj
      · exact Or.inr (hL j hj)
      · simp at hj; exact Or.inl hj
    have hold : ∀ (b o : Nat) (v : Value), wk.cell? ⟨b, o, none⟩ = some v → b ≠ r → b < wk.heap.size → w'.cell? ⟨b, o, none⟩ = some v := fun b o v h1 h2 h3 => hw'.old h1 (fun hm => by have := hkeys b hm; omega)
    obtain ⟨⟨l5, l6, l12, l13, l15, lgd⟩, e5, e6, e12, e13, e15, egd⟩ := hlt
    have hsz := hw'.size
    obtain ⟨g1, g2⟩ := dgN_eq (h := M) hi
    have hxd : ((sig.drop 36).drop (32 * i)).length = 32 * chN k - 32 * i := by rw [List.length_drop, hxs]
    have hcc := candcl_any w' id h16 q i t (dgN M k i) hq (by omega) ht9 (by omega) p5 p6 p12 p13 p15 r (32 * chN k - 32 * i) c1 gd od (chN k) cd p1 ((sig.drop 36).drop (32 * i)) hi (hw'.sub1 (List.mem_append_right _ (.head _))) (hb w' _ hw' hkeys) hxd.symm (by omega) (by omega) (fun k' hk' => (hbk k' hk').1)
      (fun j v hj => hold _ _ _ (h5 j v hj) e5 l5) (hold _ _ _ h6 e6 l6) (hold _ _ _ h12 e12 l12) (hold _ _ _ h13 e13 l13) (hold _ _ _ (hdc i _ g1) egd lgd) (hold _ _ _ h15 e15 l15) ⟨⟨by omega, by omega, by omega, by omega, by omega, by omega⟩, e5, e6, e12, e13, e15, egd⟩
    refine hcc.mono ?_
    rintro e w'' ⟨rfl, p2, c2, h7, h8, h9⟩
    have e1 : 32 * chN k - 32 * i - 32 = 32 * chN k - 32 * (i + 1) := by omega
    rw [e1] at h7 h8 h9
    have hw2 : Own wk w'' (L ++ [(r, [.slice p2 (32 * chN k - 32 * (i + 1)) c2, .bool false], 132)]) := Own.callAt (L1 := L) (L2 := []) hw' h7
    have hb2 : ∀ k', blk (Value.slice p2 (32 * chN k - 32 * (i + 1)) c2) = some k' → k' ≠ r ∧ k' < wk.heap.size := fun k' hk' => hbk k' (h9 k' hk')
    refine ⟨?_, _, ⟨p2, c2, rfl, fun w3 L3 h10 h11 => ?_, hb2⟩, h7⟩
    · unfold candX
      rw [pieceOf_eq (by omega), List.drop_drop, show 36 + 32 * i = 32 * i + 36 by omega, ← ht]
    · have h12' := SlAt.back h8 hw2 (fun k' hk' => by
        obtain ⟨h13, h14⟩ := hb2 k' hk'
        refine ⟨fun hm => ?_, h14⟩
        rw [List.map_append, List.mem_append] at hm
        rcases hm with hm | hm
        · have := hL k' hm; omega
        · simp at hm; exact h13 hm)
      have h15' := hfwd _ _ h12' hb2 w3 L3 h10 h11
      rw [List.drop_drop] at h15'
      rw [show 32 * (i + 1) = 32 * i + 32 by omega]
      exact h15'

end Go.Proofs.Ytfihlmnbonnekaa
