/- chirographlaw1.told. -/
import Derived.Test.YtilglaacegjdoaaHex
import Derived.Test.YtilglaacegjdoaaRef4
import Derived.Test.YtilglaacegjdoaaEq
import Derived.Test.YtilglaacegjdoaaConv
namespace Go.Proofs.Ytilglaacegjdoaa
open Go.RowKit

section
variable {P : Program} {ops : Array Oper} {rest : List Oper} {o : Oper} {a : Act} {w w0 : World} {Q : Exit → Act → World → Prop} {L L' : List Ent}
theorem st_newG (hw : Region.wanted o (yielded ops a.tmps) = true) {f : Nat → Value} {g : Nat → List Ent} (hrun : ∃ n w', (execOp a.eval o).run P w = .ok (.value (f n)) w' ∧ w0.heap.size ≤ n ∧ Own w0 w' (g n))
    (h : ∀ n w', w0.heap.size ≤ n → Own w0 w' (g n) → wpList P ops Q rest (a.put o.dst (f n)) w') : wpList P ops Q (o :: rest) a w := by
  obtain ⟨n, w', hrun, hn, ho⟩ := hrun
  exact BigFrame.wpList_want hw fun K hK => by unfold Oper.wp; rw [hrun, Oper.upon_value]; exact hK _ _ (h n w' hn ho)
end

theorem length_sha (bs : List Int) : (sha bs).length = 32 := rfl

theorem isBytes_bytes4 (x : Int) : ∀ y ∈ bytes4 x, 0 ≤ y ∧ y < 256 := by
  intro y hy
  simp only [bytes4, w8, List.mem_cons, List.not_mem_nil, or_false] at hy
  omega

theorem sha_mem (bs : List Int) : ∀ y ∈ sha bs, 0 ≤ y ∧ y < 256 := by
  intro y hy
  unfold sha St.bytes at hy
  simp only [List.mem_append] at hy
  rcases hy with ((((((hy | hy) | hy) | hy) | hy) | hy) | hy) | hy <;> exact isBytes_bytes4 _ y hy

theorem isBytes_sha (bs : List Int) : IsBytes (sha bs) := by
  intro i hi
  have : (sha bs)[i]?.getD 0 = (sha bs)[i] := by simp [hi]
  rw [this]
  exact sha_mem bs _ (List.getElem_mem hi)

theorem hex_abc : strOfNums (hexs (sha [97, 98, 99])) = ⟨#[98, 97, 55, 56, 49, 54, 98, 102, 56, 102, 48, 49, 99, 102, 101, 97, 52, 49, 52, 49, 52, 48, 100, 101, 53, 100, 97, 101, 50, 50, 50, 51, 98, 48, 48, 51, 54, 49, 97, 51, 57, 54, 49, 55, 55, 97, 57, 99, 98, 52, 49, 48, 102, 102, 54, 49, 102, 50, 48, 48, 49, 53, 97, 100]⟩ := by kernel_rfl
theorem hex_nil : strOfNums (hexs (sha [])) = ⟨#[101, 51, 98, 48, 99, 52, 52, 50, 57, 56, 102, 99, 49, 99, 49, 52, 57, 97, 102, 98, 102, 52, 99, 56, 57, 57, 54, 102, 98, 57, 50, 52, 50, 55, 97, 101, 52, 49, 101, 52, 54, 52, 57, 98, 57, 51, 52, 99, 97, 52, 57, 53, 57, 57, 49, 98, 55, 56, 53, 50, 98, 56, 53, 53]⟩ := by kernel_rfl

theorem Own.lit {w0 w : World} {L : List Ent} {b : Nat} {bs : List Int} {T : TypeId} {n : Nat} (H : Own w0 w ((b, u8s bs, T) :: L)) (hn : n = bs.length) : BytesAt w (.slice (some ⟨b, 0, none⟩) n n) bs := by
  subst hn
  exact Or.inr ⟨b, 0, bs.length, rfl, ⟨Nat.le_refl _, fun h => by rw [List.eq_nil_of_length_eq_zero h]; rfl⟩, fun i x hx => by rw [H.cell (.head _), Nat.zero_add]; exact hx⟩

theorem Own.lit_lt {w0 w : World} {L : List Ent} {b : Nat} {cs : List Value} {T : TypeId} {n : Nat} (H : Own w0 w ((b, cs, T) :: L)) : ∀ k, blk (Value.slice (some ⟨b, 0, none⟩) n n) = some k → k < w.heap.size := by
  intro k hk
  obtain rfl : b = k := (blk_some hk).1
  exact H.lt (.head _)

theorem Own.lit_ne {w0 w : World} {L : List Ent} {b d : Nat} {cs : List Value} {T : TypeId} {n : Nat} (H : Own w0 w ((b, cs, T) :: L)) (hd : d ∈ L.map (·.1)) : ∀ k, blk (Value.slice (some ⟨b, 0, none⟩) n n) = some k → k ≠ d := by
  intro k hk
  obtain rfl : b = k := (blk_some hk).1
  have := H.nodup
  simp only [List.map_cons, List.nodup_cons] at this
  intro e
  exact this.1 (e ▸ hd)

theorem Own.pop {w0 w : World} {L : List Ent} {b : Nat} {cs : List Value} {T : TypeId} (H : Own w0 w ((b, cs, T) :: L)) (hb : w0.heap.size ≤ b) : Own w0 w L := Own.drop (L1 := [(b, cs, T)]) H (by simpa using hb)

set_option maxRecDepth 100000 in
set_option maxHeartbeats 600000 in
theorem told_any (w : World) : Calls Try.prog 9 #[] w fun e w' => e = .returned (.bool true) ∧ Own w w' [] := by
  have H := Own.refl w
  have tok1 : True := trivial
  have hx1 := Lib.hid hex_abc
  have hx2 := Lib.hid hex_nil
  obtain ⟨A, hA⟩ : ∃ A, sha [97, 98, 99] = A := ⟨_, rfl⟩
  obtain ⟨N, hN⟩ : ∃ N, sha [] = N := ⟨_, rfl⟩
  have lA : Hid (A.length = 32) := hA ▸ length_sha _
  have lN : Hid (N.length = 32) := hN ▸ length_sha _
  have iA : Hid (IsBytes A) := hA ▸ isBytes_sha _
  have iN : Hid (IsBytes N) := hN ▸ isBytes_sha _
  rw [hA] at hx1
  rw [hN] at hx2
  have hA' := Lib.hid hA
  have hN' := Lib.hid hN
  have eA : ∀ w, (Op.equalIn 10000 25 (.agg (u8s A).toArray) (.agg (u8s A).toArray)).run Try.prog w = .ok true w := fun w => by rw [eqHash w A A lA.out lA.out, decide_eq_true rfl]
  have eN : ∀ w, (Op.equalIn 10000 25 (.agg (u8s N).toArray) (.agg (u8s N).toArray)).run Try.prog w = .ok true w := fun w => by rw [eqHash w N N lN.out lN.out, decide_eq_true rfl]
  clear hA hN
  go_enter Try.func9, Try.ntmps9
  go_wp2_with (first
    | (go_at_call 14; refine (new_any _).mono ?_; rintro e w2 ⟨d, rfl, hd, h2⟩; have H2 := H.call (L1 := []) (L := []) (Upd.of_own h2 (by simpa using hd)) (by simp); have hd0 : w.heap.size ≤ d := Nat.le_trans H.size hd; clear H h2 hd; have H : Own w w2 [(d, digCells st0 (List.replicate 64 0) 0, 48)] := H2; clear H2)
    | (clear tok1; refine st_new rfl (rn_buildSlice (e := 5) (cs := u8s [97, 98]) H rfl (fun w' => by kernel_rfl)) ?_; clear H; intro b w4 hb H)
    | (refine st_conv rfl H hb rfl rfl rfl rfl rfl ?_; intro w5 hby hlt H5; have hne := H.lit_ne (n := 2) (d := d) (by simp); clear H hb; have H := H5; clear H5; have tok2 : True := trivial)
    | (clear tok2; go_at_call 17; refine (write_any _ d st0 (List.replicate 64 0) [] [97, 98] _ DigOf.nil (by simp) (by simp) (H.sub1 (.head _)) hby hne).mono ?_; rintro e w3 ⟨rfl, st1, rest1, hd1, h3⟩; have H2 := H.call1 h3; clear H h3 hby hlt hne; have H := H2; clear H2; have tok3 : True := trivial)
    | (clear tok3; refine st_new rfl (rn_buildSlice (e := 5) (cs := u8s [99]) H rfl (fun w' => by kernel_rfl)) ?_; clear H; intro b w4 hb3 H)
    | (refine st_conv rfl H hb3 rfl rfl rfl rfl rfl ?_; intro w5 hby hlt H5; have hne := H.lit_ne (n := 1) (d := d) (by simp); clear H hb3; have H := H5; clear H5; have tok4 : True := trivial)
    | (clear tok4; go_at_call 17; refine (write_any _ d st1 rest1 ([] ++ [97, 98]) [99] _ hd1 (by simp) (by simp) (H.sub1 (.head _)) hby hne).mono ?_; rintro e w3 ⟨rfl, st2, rest2, hd2, h3⟩; have H2 := H.call1 h3; clear H h3 hd1 hby hlt hne; have H := H2; clear H2; have tok5 : True := trivial)
    | (refine st_newG (rfl) (rn_buildSlice (e := 5) (cs := u8s [97, 98, 99]) H rfl (fun w' => by kernel_rfl)) ?_; clear H; intro b w4 hb4 H)
    | (refine st_conv rfl H hb4 rfl rfl rfl rfl rfl ?_; intro w5 hby hlt H5; clear H hb4; have H := H5; clear H5)
    | (clear tok5; go_at_call 10; refine (shaSum_any _ _ [97, 98, 99] hby (by intro k hk; obtain rfl := (blk_some hk).1; exact hlt) (by simp)).mono ?_; rintro e w3 ⟨rfl, h3⟩; rw [hA'.out]; have H2 := H.call0 h3; clear H h3 hby hlt; have H := H2; clear H2; have tok6 : True := trivial)
    | (clear tok6; go_at_call 12; refine (shaHex_any _ A lA.out iA.out).mono ?_; rintro e w3 ⟨rfl, h3⟩; rw [hx1.out]; have H2 := H.call0 h3; clear H h3; have H := H2; clear H2; have tok7 : True := trivial)
    | (clear tok7; go_at_call 10; refine (shaSum_any _ (.slice none 0 0) [] (Or.inl ⟨⟨_, rfl⟩, rfl, rfl⟩) (by intro k hk; cases hk) (by simp)).mono ?_; rintro e w3 ⟨rfl, h3⟩; rw [hN'.out]; have H2 := H.call0 h3; clear H h3; have H := H2; clear H2; have tok8 : True := trivial)
    | (clear tok8; go_at_call 12; refine (shaHex_any _ N lN.out iN.out).mono ?_; rintro e w3 ⟨rfl, h3⟩; rw [hx2.out]; have H2 := H.call0 h3; clear H h3; have H := H2; clear H2; have tok9 : True := trivial)
    | (clear tok9; go_at_call 16; refine (sum_any _ d st2 rest2 _ hd2 (by simp) (H.sub1 (.head _))).mono ?_; rintro e w3 ⟨rfl, h3⟩; simp only [List.nil_append, List.cons_append]; rw [hA'.out]; have H2 := H.call0 h3; clear H h3; have H := H2; clear H2; have tok10 : True := trivial)
    | (clear tok10; go_at_call 10; refine (shaSum_any _ _ [97, 98, 99] hby (by intro k hk; obtain rfl := (blk_some hk).1; exact hlt) (by simp)).mono ?_; rintro e w3 ⟨rfl, h3⟩; rw [hA'.out]; have H2 := H.call0 h3; clear H h3 hby hlt; have H := H2; clear H2; have tok11 : True := trivial)
    | (clear tok11; go_at_call 16; refine (sum_nil _).mono ?_; rintro e w3 ⟨rfl, h3⟩; rw [hN'.out]; have H2 := H.call0 h3; clear H h3; have H := H2; clear H2; have tok12 : True := trivial)
    | (clear tok12; go_at_call 10; refine (shaSum_any _ (.slice none 0 0) [] (Or.inl ⟨⟨_, rfl⟩, rfl, rfl⟩) (by intro k hk; cases hk) (by simp)).mono ?_; rintro e w3 ⟨rfl, h3⟩; rw [hN'.out]; have H2 := H.call0 h3; clear H h3; have H := H2; clear H2; have tok13 : True := trivial)
    | (clear tok13; go_at_call 15; refine (copy_nil _).mono ?_; rintro e w3 ⟨rfl, h3⟩; have H2 := H.call0 h3; clear H h3; have H := H2; clear H2))
  have H' := Lib.hid (H.end0 (by simpa using hd0))
  go_ret
  exact ⟨rfl, H'.out⟩

end Go.Proofs.Ytilglaacegjdoaa
