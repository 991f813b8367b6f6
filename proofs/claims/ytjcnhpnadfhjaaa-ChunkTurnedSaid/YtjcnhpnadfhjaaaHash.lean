/- sha.Sum, sha.Hex. -/
import Derived.Test.YtjcnhpnadfhjaaaDig5
import Derived.Laws.BytesArg
namespace Go.Proofs.Ytjcnhpnadfhjaaa
open Go.RowKit

section
variable {P : Program} {o : Oper} {a : Act} {w : World}
theorem run_toStr {src dst e : TypeId} (hs : P.underlying src = some (.slice e)) (he : P.underlying e = some (.int .u8)) (hd : P.underlying dst = some .string) {v : Value} {bs : List Int} (hb : BytesAt w v bs) :
    (convert src dst v).run P w = .ok (.string (strOfNums bs)) w := by
  rcases hb.cell with ⟨⟨p, rfl⟩, rfl⟩ | ⟨b, off, cap, rfl, hc, hcell⟩
  · cases p with
    | none => exact run_convert_bytes_nil w src e hs he 0 0 dst hd
    | some a =>
      rw [run_convert_bytes_string w src dst e _ 0 0 hs he hd]
      simp [Conv.bytesToString, loadCells, loadCellsFrom, strOfNums]
      rfl
  · exact run_convert_bytes_arg w src e hs he b off bs.length cap bs rfl (fun i hi => by rw [hcell i hi]; rfl) dst hd

/-- string(b) -/
theorem rn_toStr {src dst e : TypeId} {x : Operand} (ho : o.op = .convert src dst x) (hs : P.underlying src = some (.slice e)) (he : P.underlying e = some (.int .u8)) (hd : P.underlying dst = some .string) {v : Value} (hx : a.eval x = v) {bs : List Int} (hb : BytesAt w v bs) :
    (execOp a.eval o).run P w = .ok (.value (.string (strOfNums bs))) w := by
  have hr := run_toStr (P := P) hs he hd hb
  unfold execOp
  simp only [ho, hx, Sem.run_bind, hr, Result.andThen_ok]
  rfl
end

set_option maxRecDepth 100000 in
set_option maxHeartbeats 1000000 in
theorem shaSum_any (w : World) (v : Value) (bs : List Int) (hv : BytesAt w v bs) (hlt : ∀ k, blk v = some k → k < w.heap.size) (hB : bs.length ≤ 140737488351232) :
    Calls Try.prog 24 #[v] w fun e w' => e = .returned (.agg (u8s (sha bs)).toArray) ∧ Own w w' [] := by
  have H := Own.refl w
  have hv' : Hid (∀ w1 L, Own w w1 L → (∀ k ∈ L.map (·.1), w.heap.size ≤ k) → BytesAt w1 v bs) := fun w1 L h1 hk => SlAt.own hv h1 (fun j hj hm => by have := hlt j hj; have := hk j hm; omega)
  have hlt' := Lib.hid hlt
  clear hv hlt
  go_enter Try.func24, Try.ntmps24
  go_wp2_with (first
    | (refine st_new rfl (rn_alloc H rfl info_hash) ?_; clear H; intro r w1 hr1 H)
    | (go_at_call 28; refine (new_any _).mono ?_; rintro e w2 ⟨d, rfl, hd, h2⟩; have H2 := H.call (L1 := []) (L := [(r, u8s (List.replicate 32 0), 35)]) (Upd.of_own h2 (by simpa using hd)) (by simp); have hd0 : w.heap.size ≤ d := Nat.le_trans H.size hd; clear H h2 hd; have H : Own w w2 [(d, digCells st0 (List.replicate 64 0) 0, 67), (r, u8s (List.replicate 32 0), 35)] := H2; clear H2)
    | (go_at_call 29; refine (write_any _ d st0 (List.replicate 64 0) [] bs v DigOf.nil (by simp) hB (H.sub1 (.head _)) (hv'.out _ _ H (by simp; omega)) (fun k hk => by have := hlt'.out k hk; omega)).mono ?_; rintro e w3 ⟨rfl, st', rest', hd3, h3⟩; have H2 := H.call1 h3; clear H h3; have H := H2; clear H2)
    | (go_at_call 30; refine (sum_any _ d st' rest' ([] ++ bs) hd3 (by simpa using hB) (by have h := H.sub1 (.head _); simpa using h)).mono ?_; rintro e w4 ⟨rfl, h4⟩; have H2 := H.call0 h4; clear H h4 hd3; have H := H2; clear H2)
    | (refine st_skip rfl (rn_storeAll H rfl rfl rfl (by kernel_rfl) (.tail .head) (by kernel_rfl) (oneCell_ints _ _)) ?_; clear H; intro w8 H))
  refine fin_cell rfl H rfl (.tail _ (.head _)) rfl rfl (by kernel_rfl) rfl ⟨rfl, H.end0 (by simp; omega)⟩

end Go.Proofs.Ytjcnhpnadfhjaaa
