/- sha's block, the whole. Printed by a program of this work (wip/gen/blk.py). -/
import Derived.Test.YtjcnhpnadfhjaaaSha5
namespace Go.Proofs.Ytjcnhpnadfhjaaa
open Go.RowKit

/-- A slice of bytes that reads as these in every world of a class. -/
def Src (C : World → Prop) (v : Value) (bs : List Int) : Prop :=
  ((∃ p, v = .slice p 0 0) ∧ bs = []) ∨ ∃ b off cap, v = .slice (some ⟨b, off, none⟩) bs.length cap ∧ bs.length ≤ cap ∧ ∀ w, C w → ∀ i, i < bs.length → w.cell? ⟨b, off + i, none⟩ = some (.int .u8 (bs[i]?.getD 0))

def lenV : Value → Nat | .slice _ n _ => n | _ => 0

theorem words_drop (bs : List Int) (p : Nat) : ∀ n, words (bs.drop p) 0 n = words bs p n
  | 0 => rfl
  | n + 1 => by
    have hw : word (bs.drop p) (0 + 4 * n) = word bs (p + 4 * n) := by
      unfold word
      simp only [List.getElem?_drop, Nat.zero_add, Nat.add_assoc]
    simp only [words, words_drop bs p n, hw]

theorem comps_succ (s : St) (bs : List Int) (k : Nat) : comps s bs 0 (k + 1) = (comps s bs 0 k).add (rnds shaK (sched (words (bs.drop (64 * k)) 0 16) 48) (comps s bs 0 k) 64) := by
  rw [words_drop]
  show comp (comps s bs 0 k) bs (0 + 64 * k) = _
  rw [Nat.zero_add]
  rfl

set_option maxRecDepth 100000 in
set_option maxHeartbeats 4000000 in
theorem block_any (w : World) (d : Nat) (T : TypeId) (s : St) (rest : List Value) (v : Value) (bs : List Int) (hd : Own w w [(d, u32s s.l ++ rest, T)])
    (hv : Src (fun w' => ∃ s' : St, Own w w' [(d, u32s s'.l ++ rest, T)]) v bs) (hlen : bs.length ≤ 140737488351232) :
    Calls Try.prog 33 #[.pointer (some ⟨d, 0, none⟩), v] w fun e w' => e = .returned (.tuple #[]) ∧ Own w w' [(d, u32s (comps s bs 0 (bs.length / 64)).l ++ rest, T)] := by
  have H := hd
  have hv' := Lib.hid hv
  clear hd hv
  go_enter Try.func33, Try.ntmps33
  go_wp2_with (first
    | (go_at_call 35; refine (rounds_any _).mono ?_; rintro e w1 ⟨rfl, h1⟩; have H1 := H.call0 h1; clear H h1; have H := H1; clear H1)
    | (refine st_new rfl (rn_alloc H rfl info_a64) ?_; clear H; intro b1 w2 hb1 H)
    | (refine st_skip rfl (rn_storeAll H rfl rfl rfl size_a64 .head rfl (oneCell_ints _ _)) ?_; clear H; intro w3 H))
  go_frame
  rename_i b0 w2' hb0
  clear w2' w1
  go_loopw [1] (fun v1 wr => ∃ k, 64 * k ≤ bs.length ∧ Src (fun w' => ∃ s' : St, Own w w' [(d, u32s s'.l ++ rest, T)]) v1 (bs.drop (64 * k)) ∧ ∃ xs : List Int, xs.length = 64 ∧ Own w wr [(b1, u32s xs, 62), (b0, u32s shaK, 62), (d, u32s (comps s bs 0 k).l ++ rest, T)]) (fun v1 wr => lenV v1)
  case atStart => exact ⟨0, by omega, by simpa using hv'.out, List.replicate 64 0, rfl, H⟩
  case round =>
    clear H hv'
    obtain ⟨k, hk, hsrc, xs, hxs, H⟩ := hrel
    have hl : (bs.drop (64 * k)).length = bs.length - 64 * k := by simp
    have hcs := Lib.hid (comps_succ s bs k)
    have hdd : Hid (bs.drop (64 * (k + 1)) = (bs.drop (64 * k)).drop 64) := by show _ = _; rw [List.drop_drop]; congr 1
    have hend : Hid (bs.length < 64 * k + 64 → comps s bs 0 (bs.length / 64) = comps s bs 0 k) := by
      intro h; rw [show bs.length / 64 = k by omega]
    generalize bs.drop (64 * k) = bk at hsrc hcs hdd hl
    generalize comps s bs 0 k = sk at H hcs hend
    rcases hsrc with ⟨⟨p0, hnil⟩, hz⟩ | ⟨sb, so, cap, hu1, hcap, hcell⟩
    · subst hnil hz
      simp only [List.length_nil] at hl
      have hfin := Lib.hid (hend.out (by omega))
      have H' := Lib.hid (Own.drop (L1 := [(b1, u32s xs, 62), (b0, u32s shaK, 62)]) H (by simp; omega))
      clear hl hcs hdd hend H
      go_wp2_with fail
      go_end0
      exact ⟨rfl, by rw [hfin.out]; exact H'.out⟩
    · subst hu1
      have hlb : bk.length ≤ 140737488351232 := by omega
      have hlk : bk.length + 64 * k = bs.length := by omega
      clear hl
      by_cases h64 : 64 ≤ bk.length
      · refine blk_round w _ d b0 b1 sb so _ cap T sk xs rest bk hxs h64 hlb rfl hb0 hb1 H hcell _ _ (by kernel_rfl) ?_
        clear H
        intro _ _ _ _ _ _ _ _ _ _ _ _ _ _ _ _ _ _ _ _ _ _ _ _ _ _ _ _ _ _ _ _ _ _ _ _ _ _ _ _ _ _ _ _ _ _ _ _ _ _ _ _ _ _ _ _ _ _ _ _ _ _ _ _ _ _ _ _ _ _ _ _ _ _ _ _ _ _ _ _ _ _ _ _ _ _ _ _ _ _ _ _ _ _ _ _ _ _ _ _ _ _ _ _ _ _ _ _ _ _ _ _ _ _ _ _ _ _ _ _ _ _ _ _ _ _ _ _ _ _ _ _ _ _ _ _ _ _ _ _ _ _ _ _ _ _ _ _ _ _ _ _ _ _ _ _ _ _ _ _ _ _ _ _ _ _ _ _ _ _ _ _ _ _ _ _ _ _ _ _ _ _ _ _ _ _ _ _ _ _ _ _ _ _ _ _ _ _ _ _ _ _ _ _ _ _ _ _ _ _ _ _ _ so' cap' w' xs' hcp hso hxs' H
        change _ ∧ _
        go_roundw
        case rel =>
          refine ⟨k + 1, by omega, ?_, xs', hxs', ?_⟩
          · rw [hdd.out]
            refine Or.inr ⟨sb, so', cap', by simp, by simp; omega, fun wx hwx i hi => ?_⟩
            have hi' : i < bk.length - 64 := by simpa using hi
            rw [hso (by omega), List.getElem?_drop, show so + 64 + i = so + (64 + i) by omega]
            exact hcell wx hwx (64 + i) (by omega)
          · rw [hcs.out]; exact H
        case measure => simp [lenV]; omega
      · have hfin := Lib.hid (hend.out (by omega))
        have H' := Lib.hid (Own.drop (L1 := [(b1, u32s xs, 62), (b0, u32s shaK, 62)]) H (by simp; omega))
        clear hcell hcs hdd hend H
        go_wp2_with fail
        go_end0
        exact ⟨rfl, by rw [hfin.out]; exact H'.out⟩
end Go.Proofs.Ytjcnhpnadfhjaaa
